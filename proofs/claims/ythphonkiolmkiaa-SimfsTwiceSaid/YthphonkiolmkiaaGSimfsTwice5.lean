/- Texts of the claim SimfsTwice, part 5: SimKb, SimKc, SimKd, SimKe, SimKf, SimKg, SimKh, SimKi, SimKj, SimKk, SimKl, SimKm, SimKn, SimKo, SimKp, SimKq. -/
import Derived.Test.YthphonkiolmkiaaGSimfsTwice4
import Derived.Test.YthphonkiolmkiaaGSimfsTwice3
/- Layer 14, the reference walked: entries. -/
set_option linter.unusedVariables false
set_option linter.unusedSimpArgs false
namespace Go.Proofs.Ythphonkiolmkiaa
open Go.RowKit
set_option maxRecDepth 100000
set_option maxHeartbeats 8000000

def entV (p : ByteArray × Nat) : List Value := [sE p.1, nE (p.2 - 1)]
theorem Try.infoEntry : (Try.prog.info? 115).map (fun i => (i.zero, i.size, i.bytes)) = some (some (.agg #[.string .empty, .int .i64 0]), 2, 24) := by kernel_rfl
theorem ent_one (l : List (ByteArray × Nat)) : ∀ u ∈ l.flatMap entV, u.oneCell' = true := by
  intro u hu
  obtain ⟨p, _, hp⟩ := List.mem_flatMap.1 hu
  simp [entV] at hp
  rcases hp with rfl | rfl <;> rfl
theorem ent_len (l : List (ByteArray × Nat)) : (l.flatMap entV).length = l.length * 2 := by
  induction l with
  | nil => rfl
  | cons p l ih => rw [List.flatMap_cons, List.length_append, ih]; simp [entV]; omega
def FindR (D : Dir) (s : ByteArray) (w : World) (en : Ending) (w' : World) : Prop := ∃ r : Int, en = .returned (.int .i64 r) ∧ w' = w ∧ ((r = -1 ∧ mGet D s = none) ∨ ∃ i n : Nat, r = i ∧ D[i]? = some (s, n))
theorem ref_find (A : Option Addr) (D : Dir) (c : Nat) (s : ByteArray) (w : World) (hr : Rd w A (D.flatMap entV)) (hl : D.length ≤ 1000) :
    Calls Try.prog 86 #[.slice A D.length c, sE s] w (FindR D s w) := by
  have HR := Lib.hid hr
  clear hr
  go_enter Try.func86, Try.ntmps86
  go_wp2_with fail
  go_loopw [5] (fun v5 wr => ∃ (j : Nat), v5 = .int .i64 j ∧ j ≤ D.length ∧ wr = w ∧ Hid (∀ p ∈ D.take j, p.1 ≠ s)) (fun v5 _ => D.length - (intOf v5).toNat)
  case atStart => exact ⟨0, rfl, Nat.zero_le _, rfl, (by intro p hp; cases hp)⟩
  case round =>
    obtain ⟨j, rfl, hj, rfl, HN⟩ := hrel
    by_cases hlt : j < D.length
    case pos =>
      obtain ⟨⟨x, n⟩, hx⟩ : ∃ p, D[j]? = some p := ⟨_, List.getElem?_eq_getElem hlt⟩
      obtain ⟨bb, o, rfl, hcell⟩ := Rd.rec (f := entV) (k := 2) (fun _ => rfl) HR.out hx (by omega)
      have k0 : wr.cell? ⟨bb, o + j * 2, none⟩ = some (sE x) := hcell 0 _ rfl
      have i1 : (j : Int) < (D.length : Int) := by omega
      have HX := Lib.hid hx
      clear hcell hx
      by_cases e : x = s
      · subst e
        go_wp2_with fail
        go_ret
        exact ⟨(j : Int), rfl, rfl, .inr ⟨j, n, rfl, HX.out⟩⟩
      · have e1 : (x.toList == s.toList) = false := beq_eq_false_iff_ne.2 (fun h => e (str_inj h))
        have HE := Lib.hid e
        clear e
        go_wp2_with fail
        go_roundw
        case rel =>
          refine ⟨j + 1, rfl, hlt, trivial, fun p hp => ?_⟩
          rw [List.take_add_one, HX.out] at hp
          rcases List.mem_append.1 hp with hp | hp
          · exact HN.out p hp
          · simp at hp; subst hp; exact HE.out
        case measure => simp [intOf]; omega
    case neg =>
      obtain rfl : j = D.length := by omega
      have i1 : ¬ ((D.length : Int) < (D.length : Int)) := by omega
      go_wp2_with fail
      go_ret
      exact ⟨-1, rfl, rfl, .inl ⟨rfl, mGet_none (by have h := HN.out; rw [List.take_length] at h; exact h)⟩⟩
theorem mDel_snoc (D : Dir) (p : ByteArray × Nat) (s : ByteArray) : mDel (D ++ [p]) s = if p.1 = s then mDel D s else mDel D s ++ [p] := by
  unfold mDel
  rw [List.filter_append]
  by_cases e : p.1 = s <;> simp [e]
theorem ref_without (A : Option Addr) (D : Dir) (c : Nat) (s : ByteArray) {w0 w : World} {cs : List Chunk} (h : Mem w0 cs w) (hr : ∀ v, Mem w0 cs v → Rd v A (D.flatMap entV)) (hl : D.length ≤ 1000) :
    Calls Try.prog 93 #[.slice A D.length c, sE s] w (fun en w' => ∃ A' c', en = .returned (.slice A' (mDel D s).length c') ∧ Mem w0 (row 115 2 (.slice A' (mDel D s).length c') (mDel D s).length ((mDel D s).flatMap entV) :: cs) w') := by
  have HR := Lib.hid hr
  have HM := Lib.hid (h.nilRow 115 2)
  clear hr h
  go_enter Try.func93, Try.ntmps93
  go_wp2_with fail
  go_loopw [5, 6] (fun v5 v6 wr => ∃ (j : Nat) (A5 : Option Addr) (c5 : Nat), v6 = .int .i64 j ∧ j ≤ D.length ∧ v5 = .slice A5 (mDel (D.take j) s).length c5 ∧ Hid (Mem w0 (row 115 2 (.slice A5 (mDel (D.take j) s).length c5) (mDel (D.take j) s).length ((mDel (D.take j) s).flatMap entV) :: cs) wr)) (fun _ v6 _ => D.length - (intOf v6).toNat)
  case atStart => exact ⟨0, none, 0, rfl, Nat.zero_le _, rfl, HM.out⟩
  case round =>
    obtain ⟨j, A5, c5, rfl, hj, rfl, HS⟩ := hrel
    clear HM
    by_cases hlt : j < D.length
    case pos =>
      obtain ⟨⟨x, n⟩, hx⟩ : ∃ p, D[j]? = some p := ⟨_, List.getElem?_eq_getElem hlt⟩
      have HNX := Lib.hid (show mDel (D.take (j + 1)) s = if x = s then mDel (D.take j) s else mDel (D.take j) s ++ [(x, n)] by rw [List.take_add_one, hx]; exact mDel_snoc _ _ _)
      have hll : (mDel (D.take j) s).length ≤ 1000 := by
        have h1 : (mDel (D.take j) s).length ≤ (D.take j).length := List.length_filter_le _ _
        rw [List.length_take] at h1
        omega
      obtain ⟨E, hE⟩ : ∃ E, E = mDel (D.take j) s := ⟨_, rfl⟩
      rw [← hE] at HS HNX hll ⊢
      obtain ⟨bb, o, rfl, hcell⟩ := Rd.rec (f := entV) (k := 2) (fun _ => rfl) (HR.out wr HS.out.drop) hx (by omega)
      have k0 : wr.cell? ⟨bb, o + j * 2, none⟩ = some (sE x) := hcell 0 _ rfl
      have k1 : wr.cell? ⟨bb, o + j * 2 + 1, none⟩ = some (nE (n - 1)) := hcell 1 _ rfl
      have i1 : (j : Int) < (D.length : Int) := by omega
      clear hcell hx hE
      by_cases e : x = s
      · have e1 : (x.toList == s.toList) = true := by rw [e]; exact beq_self_eq_true _
        have HE := Lib.hid e
        clear e
        go_wp2_with fail
        go_roundw
        case rel => exact ⟨j + 1, A5, c5, rfl, hlt, by rw [HNX.out, if_pos HE.out], by rw [HNX.out, if_pos HE.out]; exact HS⟩
        case measure => simp [intOf]; omega
      · have e1 : (x.toList == s.toList) = false := beq_eq_false_iff_ne.2 (fun h => e (str_inj h))
        have HE := Lib.hid e
        clear e
        go_wp2_with (at_builtin; go_must (refine append_one rfl _ _ 102 115 (.agg #[.string .empty, .int .i64 0]) 2 24 rfl Try.underlying102 Try.infoEntry rfl (by decide) 0 (ys := [sE x, nE (n - 1)]) (HS.out.app 0 rfl) (by rfl) (by rfl) (by rfl) (by intro u hu; simp at hu; rcases hu with rfl | rfl <;> rfl) (by omega) (by omega) (Nat.zero_le _) ?_); intro v7 w7 hown7 hgr7 hat7; obtain ⟨A7, c7, rfl, hcc7⟩ := hown7.slice)
        go_roundw
        case rel =>
          have M7 := HS.out.growOne 0 rfl hown7 hgr7 hat7
          have e2 : E.flatMap entV ++ [sE x, nE (n - 1)] = (E ++ [(x, n)]).flatMap entV := by simp [entV]
          have e3 : E.length + 1 = (E ++ [(x, n)]).length := by simp
          rw [e2, e3] at M7
          exact ⟨j + 1, A7, c7, rfl, hlt, by rw [HNX.out, if_neg HE.out, ← e3], by rw [HNX.out, if_neg HE.out]; exact M7⟩
        case measure => simp [intOf]; omega
    case neg =>
      obtain rfl : j = D.length := by omega
      rw [List.take_length] at HS ⊢
      have i1 : ¬ ((D.length : Int) < (D.length : Int)) := by omega
      go_wp2_with fail
      go_ret
      exact ⟨A5, c5, rfl, HS.out⟩
theorem dPut_at (s : ByteArray) (n : Nat) : ∀ (D : Dir) (j : Nat), (∀ p ∈ D.take j, sLt p.1 s = true) → (∀ p, D[j]? = some p → sLt p.1 s = false) → (∀ p ∈ D, p.1 ≠ s) → dPut D s n = D.take j ++ (s, n) :: D.drop j
  | [], j, _, _, _ => by simp [dPut]
  | p :: D, 0, _, h2, h3 => by
    have h4 := h2 p rfl
    have h5 := h3 p (by simp)
    unfold dPut
    rw [if_neg h5]
    have h6 : sLt s p.1 = true := by
      by_cases h : sLt s p.1 = true
      · exact h
      · exact absurd (sLt_total h4 (by simpa using h)) h5
    rw [if_pos h6]
    rfl
  | p :: D, j + 1, h1, h2, h3 => by
    have h4 := h1 p (by simp)
    have h5 := h3 p (by simp)
    unfold dPut
    rw [if_neg h5]
    have h6 : ¬ sLt s p.1 = true := fun h => by
      have := sLt_trans h h4
      rw [sLt_irrefl] at this
      cases this
    rw [if_neg h6, dPut_at s n D j (fun q hq => h1 q (by simp [hq])) (fun q hq => h2 q (by simpa using hq)) (fun q hq => h3 q (List.mem_cons_of_mem _ hq))]
    rfl
theorem ref_with (A : Option Addr) (D : Dir) (c : Nat) (s : ByteArray) (n : Nat) {w0 w : World} {cs : List Chunk} (h : Mem w0 cs w) (hr : ∀ v, Mem w0 cs v → Rd v A (D.flatMap entV)) (hl : D.length ≤ 1000) (hc : D.length ≤ c) (hm : mGet D s = none) :
    Calls Try.prog 88 #[.slice A D.length c, sE s, nE (n - 1)] w (fun en w' => ∃ A' c', en = .returned (.slice A' (dPut D s n).length c') ∧ Mem w0 (row 115 2 (.slice A' (dPut D s n).length c') (dPut D s n).length ((dPut D s n).flatMap entV) :: cs) w') := by
  have HR := Lib.hid hr
  have HM := Lib.hid (h.nilRow 115 2)
  have HMG := Lib.hid (mGet_eq_none.1 hm)
  clear hr h hm
  obtain ⟨r, hrr⟩ : ∃ r, r = dPut D s n := ⟨_, rfl⟩
  have HRES := Lib.hid hrr
  rw [← hrr]
  clear hrr
  go_enter Try.func88, Try.ntmps88
  go_wp2_with fail
  go_loopw [7] (fun v7 wr => ∃ (j : Nat), v7 = .int .i64 j ∧ j ≤ D.length ∧ wr = w ∧ Hid (∀ p ∈ D.take j, sLt p.1 s = true)) (fun v7 _ => D.length - (intOf v7).toNat)
  case atStart => exact ⟨0, rfl, Nat.zero_le _, rfl, (by intro p hp; cases hp)⟩
  case round =>
    obtain ⟨j, rfl, hj, rfl, HN⟩ := hrel
    by_cases hlt : j < D.length
    case pos =>
      obtain ⟨⟨x, k⟩, hx⟩ : ∃ p, D[j]? = some p := ⟨_, List.getElem?_eq_getElem hlt⟩
      obtain ⟨bb, o, rfl, hcell⟩ := Rd.rec (f := entV) (k := 2) (fun _ => rfl) (HR.out wr HM.out.drop) hx (by omega)
      have k0 : wr.cell? ⟨bb, o + j * 2, none⟩ = some (sE x) := hcell 0 _ rfl
      have i1 : (j : Int) < (D.length : Int) := by omega
      have HX := Lib.hid hx
      clear hcell hx
      by_cases hs : sLt x s = true
      · have e1 : Op.bytesLess x.toList s.toList = true := hs
        have HE := Lib.hid hs
        clear hs
        go_wp2_with fail
        go_roundw
        case rel =>
          refine ⟨j + 1, rfl, hlt, trivial, fun p hp => ?_⟩
          rw [List.take_add_one, HX.out] at hp
          rcases List.mem_append.1 hp with hp | hp
          · exact HN.out p hp
          · simp at hp; subst hp; exact HE.out
        case measure => simp [intOf]; omega
      · have e1 : Op.bytesLess x.toList s.toList = false := (show sLt x s = false by simpa using hs)
        have HFIN := Lib.hid (show r = D.take j ++ (s, n) :: D.drop j from HRES.out.trans (dPut_at s n D j HN.out (fun p hp => by rw [HX.out] at hp; cases hp; simpa using hs) HMG.out))
        clear hs
        have HRT := Lib.hid (show Rd wr (some ⟨bb, o, none⟩) ((D.take j).flatMap entV) by
          have h := (HR.out wr HM.out.drop).take (j * 2)
          have e : (D.flatMap entV).take (j * 2) = (D.take j).flatMap entV := by
            have h1 : D.flatMap entV = (D.take j).flatMap entV ++ (D.drop j).flatMap entV := by rw [← List.flatMap_append, List.take_append_drop]
            rw [h1, List.take_left' (by rw [ent_len, List.length_take]; omega)]
          rw [e] at h
          exact h)
        have hct := cut_h (P := Try.prog) 102 115 2 Try.underlying102 (by kernel_rfl) (some ⟨bb, o, none⟩) D.length c j (by omega) wr
        go_upto_region 6 with (at_builtin; go_must (refine append_row rfl _ _ 102 115 (.agg #[.string .empty, .int .i64 0]) 2 24 rfl Try.underlying102 Try.infoEntry rfl (by decide) 0 (HM.out.app 0 rfl) (by rfl) (by rfl) HRT.out (by rw [ent_len, List.length_take]; omega) (ent_one _) (by omega) (by omega) (Nat.zero_le _) ?_); intro v1 w1 hown1 hgr1 hat1; obtain ⟨A1, c1, rfl, hc1⟩ := hown1.slice)
        have M1 := HM.out.grow 0 rfl hown1 hgr1 hat1
        rw [List.nil_append, Nat.zero_add] at M1
        have HM1 := Lib.hid M1
        clear M1 hown1 hgr1 hat1 HRT hct HM
        go_upto_region 7 with (at_builtin; go_must (refine append_one rfl _ _ 102 115 (.agg #[.string .empty, .int .i64 0]) 2 24 rfl Try.underlying102 Try.infoEntry rfl (by decide) 0 (ys := [sE s, nE (n - 1)]) (HM1.out.app 0 rfl) (by rfl) (by rfl) (by rfl) (by intro u hu; simp at hu; rcases hu with rfl | rfl <;> rfl) (by omega) (by omega) (Nat.zero_le _) ?_); intro v2 w2 hown2 hgr2 hat2; obtain ⟨A2, c2, rfl, hcc2⟩ := hown2.slice)
        have M2 := HM1.out.growOne 0 rfl hown2 hgr2 hat2
        have HM2 := Lib.hid M2
        have HRD := Lib.hid (show Rd w2 (cutAddr (some ⟨bb, o, none⟩) 2 j c) ((D.drop j).flatMap entV) by
          have h := (HR.out w2 HM2.out.drop).cutTo 2 j c (by intro e; rw [ent_len]; omega)
          have e : (D.flatMap entV).drop (j * 2) = (D.drop j).flatMap entV := by
            have h1 : D.flatMap entV = (D.take j).flatMap entV ++ (D.drop j).flatMap entV := by rw [← List.flatMap_append, List.take_append_drop]
            rw [h1, List.drop_left' (by rw [ent_len, List.length_take]; omega)]
          rw [e] at h
          exact h)
        have s2 := cut_l (P := Try.prog) 102 115 2 Try.underlying102 (by kernel_rfl) (some ⟨bb, o, none⟩) D.length c j hj w2
        clear M2 hown2 hgr2 hat2 HM1
        go_wp2_with (at_builtin; go_must (refine append_row rfl _ _ 102 115 (.agg #[.string .empty, .int .i64 0]) 2 24 rfl Try.underlying102 Try.infoEntry rfl (by decide) 0 (HM2.out.app 0 rfl) (by rfl) (by rfl) HRD.out (by rw [ent_len, List.length_drop]) (ent_one _) (by omega) (by omega) (Nat.zero_le _) ?_); intro v3 w3 hown3 hgr3 hat3; obtain ⟨A3, c3, rfl, hc3⟩ := hown3.slice)
        go_ret
        have M3 := HM2.out.grow 0 rfl hown3 hgr3 hat3
        have e3 : (D.take j).flatMap entV ++ [sE s, nE (n - 1)] ++ (D.drop j).flatMap entV = r.flatMap entV := by rw [HFIN.out]; simp [entV]
        have e4 : j + 1 + (D.length - j) = r.length := by rw [HFIN.out, List.length_append, List.length_take, List.length_cons, List.length_drop]; omega
        rw [e3, e4] at M3
        exact ⟨A3, c3, by rw [← e4]; rfl, M3⟩
    case neg =>
      have i1 : ¬ ((j : Int) < (D.length : Int)) := by omega
      have HFIN := Lib.hid (show r = D.take j ++ (s, n) :: D.drop j from HRES.out.trans (dPut_at s n D j HN.out (fun p hp => by have := (List.getElem?_eq_some_iff.1 hp).1; omega) HMG.out))
      have HRT := Lib.hid (show Rd wr A ((D.take j).flatMap entV) by
        have h := (HR.out wr HM.out.drop).take (j * 2)
        have e : (D.flatMap entV).take (j * 2) = (D.take j).flatMap entV := by
          have h1 : D.flatMap entV = (D.take j).flatMap entV ++ (D.drop j).flatMap entV := by rw [← List.flatMap_append, List.take_append_drop]
          rw [h1, List.take_left' (by rw [ent_len, List.length_take]; omega)]
        rw [e] at h
        exact h)
      have hct := cut_h (P := Try.prog) 102 115 2 Try.underlying102 (by kernel_rfl) A D.length c j (by omega) wr
      go_upto_region 6 with (at_builtin; go_must (refine append_row rfl _ _ 102 115 (.agg #[.string .empty, .int .i64 0]) 2 24 rfl Try.underlying102 Try.infoEntry rfl (by decide) 0 (HM.out.app 0 rfl) (by rfl) (by rfl) HRT.out (by rw [ent_len, List.length_take]; omega) (ent_one _) (by omega) (by omega) (Nat.zero_le _) ?_); intro v1 w1 hown1 hgr1 hat1; obtain ⟨A1, c1, rfl, hc1⟩ := hown1.slice)
      have M1 := HM.out.grow 0 rfl hown1 hgr1 hat1
      rw [List.nil_append, Nat.zero_add] at M1
      have HM1 := Lib.hid M1
      clear M1 hown1 hgr1 hat1 HRT hct HM
      go_upto_region 7 with (at_builtin; go_must (refine append_one rfl _ _ 102 115 (.agg #[.string .empty, .int .i64 0]) 2 24 rfl Try.underlying102 Try.infoEntry rfl (by decide) 0 (ys := [sE s, nE (n - 1)]) (HM1.out.app 0 rfl) (by rfl) (by rfl) (by rfl) (by intro u hu; simp at hu; rcases hu with rfl | rfl <;> rfl) (by omega) (by omega) (Nat.zero_le _) ?_); intro v2 w2 hown2 hgr2 hat2; obtain ⟨A2, c2, rfl, hcc2⟩ := hown2.slice)
      have M2 := HM1.out.growOne 0 rfl hown2 hgr2 hat2
      have HM2 := Lib.hid M2
      have HRD := Lib.hid (show Rd w2 (cutAddr A 2 j c) ((D.drop j).flatMap entV) by
        have h := (HR.out w2 HM2.out.drop).cutTo 2 j c (by intro e; rw [ent_len]; omega)
        have e : (D.flatMap entV).drop (j * 2) = (D.drop j).flatMap entV := by
          have h1 : D.flatMap entV = (D.take j).flatMap entV ++ (D.drop j).flatMap entV := by rw [← List.flatMap_append, List.take_append_drop]
          rw [h1, List.drop_left' (by rw [ent_len, List.length_take]; omega)]
        rw [e] at h
        exact h)
      have s2 := cut_l (P := Try.prog) 102 115 2 Try.underlying102 (by kernel_rfl) A D.length c j hj w2
      clear M2 hown2 hgr2 hat2 HM1
      go_wp2_with (at_builtin; go_must (refine append_row rfl _ _ 102 115 (.agg #[.string .empty, .int .i64 0]) 2 24 rfl Try.underlying102 Try.infoEntry rfl (by decide) 0 (HM2.out.app 0 rfl) (by rfl) (by rfl) HRD.out (by rw [ent_len, List.length_drop]) (ent_one _) (by omega) (by omega) (Nat.zero_le _) ?_); intro v3 w3 hown3 hgr3 hat3; obtain ⟨A3, c3, rfl, hc3⟩ := hown3.slice)
      go_ret
      have M3 := HM2.out.grow 0 rfl hown3 hgr3 hat3
      have e3 : (D.take j).flatMap entV ++ [sE s, nE (n - 1)] ++ (D.drop j).flatMap entV = r.flatMap entV := by rw [HFIN.out]; simp [entV]
      have e4 : j + 1 + (D.length - j) = r.length := by rw [HFIN.out, List.length_append, List.length_take, List.length_cons, List.length_drop]; omega
      rw [e3, e4] at M3
      exact ⟨A3, c3, by rw [← e4]; rfl, M3⟩
end Go.Proofs.Ythphonkiolmkiaa
/- Layer 14, the reference walked: names, a file's bytes, an act that counts. -/
set_option linter.unusedVariables false
set_option linter.unusedSimpArgs false
namespace Go.Proofs.Ythphonkiolmkiaa
open Go.RowKit
set_option maxRecDepth 100000
set_option maxHeartbeats 8000000

theorem ref_name (s : ByteArray) (w : World) (hs : s.size ≤ 281474976710656) :
    Calls Try.prog 85 #[sE s] w (fun en w' => en = .returned (.bool (isNm s)) ∧ w' = w) := by
  have HS := Lib.hid (tb_len s)
  go_enter Try.func85, Try.ntmps85
  go_wp2_with fail
  go_loopw [3] (fun i wr => ∃ j : Nat, j ≤ s.size ∧ i = .int .i64 j ∧ Hid (((tb s).take j).all chOfName = true) ∧ wr = w) (fun i _ => s.size - (intOf i).toNat)
  case atStart => exact ⟨0, by omega, rfl, rfl, rfl⟩
  case round =>
    obtain ⟨j, hj, rfl, hall, rfl⟩ := hrel
    by_cases hlt : j < s.size
    · obtain ⟨x, hx⟩ := get_some (tb s) j (by rw [tb_len]; exact hlt)
      have hst : ((tb s).take (j + 1)).all chOfName = chOfName x := by
        rw [List.take_add_one, hx, List.all_append, hall.out]; simp
      have hno : chOfName x = false → isNm s = false := fun h => by
        unfold isNm
        have : (tb s).all chOfName = false := by
          cases e : (tb s).all chOfName
          · rfl
          · rw [List.all_eq_true] at e
            rw [e x (List.mem_of_getElem? hx)] at h; cases h
        rw [this]; rfl
      rw [ch_iff] at hst hno
      have HT := Lib.hid (And.intro hst hno)
      have hx8 : (x.toNat : Int) < 256 := by have := x.toNat_lt; omega
      have HQ := Lib.hid (show ((s[j]'hlt).toNat : Int) = (x.toNat : Int) by
        have h := hx
        unfold tb at h
        rw [Array.getElem?_toList, Array.getElem?_eq_getElem hlt] at h
        rw [← Option.some.inj h]; rfl)
      clear hst hno hx
      generalize x.toNat = q at HQ HT hx8
      go_wp2_with fail
      all_goals
        have hq := HQ.out
        rcases Classical.em ((97 ≤ (q : Int) ∧ (q : Int) ≤ 122) ∨ (48 ≤ (q : Int) ∧ (q : Int) ≤ 57) ∨ (q : Int) = 46 ∨ (q : Int) = 45) with hyes | hno
        · first
          | (exfalso; simp only [beq_iff_eq, beq_eq_false_iff_ne, bne_iff_ne, bne_eq_false_iff_eq, ne_eq, decide_eq_true_eq, decide_eq_false_iff_not, Bool.not_eq_true, Bool.not_eq_false, hq] at *; omega)
          | (go_roundw
             case rel =>
               have h1 := HT.out.1
               refine ⟨j + 1, by omega, by go_num, ?_, trivial⟩
               first
               | exact ⟨h1.trans (decide_eq_true hyes)⟩
               | exact h1.trans (decide_eq_true hyes)
             case measure => simp [intOf]; omega)
        · first
          | (exfalso; simp only [beq_iff_eq, beq_eq_false_iff_ne, bne_iff_ne, bne_eq_false_iff_eq, ne_eq, decide_eq_true_eq, decide_eq_false_iff_not, Bool.not_eq_true, Bool.not_eq_false, hq] at *; omega)
          | (go_ret
             refine ⟨?_, rfl⟩
             rw [HT.out.2 (decide_eq_false hno)]
             rfl)
    · obtain rfl : j = s.size := by omega
      have hin : isNm s = (decide (1 ≤ s.size) && decide (s.size ≤ 32)) := by
        have h := hall.out
        rw [List.take_of_length_le (by rw [tb_len]; omega)] at h
        unfold isNm; rw [h]; rfl
      have HN := Lib.hid hin
      clear hin hall hlt hj
      go_wp2_with fail
      all_goals
        go_ret
        refine ⟨?_, rfl⟩
        rw [HN.out]
        first
        | (refine ret_bool (a := decide ((s.size : Int) ≤ 32)) ?_
           rw [Bool.eq_iff_iff]
           simp only [Bool.and_eq_true, decide_eq_true_eq] at *
           omega)
        | (refine ret_bool (a := false) ?_
           rw [Bool.eq_iff_iff]
           simp only [Bool.and_eq_true, decide_eq_true_eq] at *
           constructor
           · intro h; cases h
           · omega)
end Go.Proofs.Ythphonkiolmkiaa
/- Layer 14, the reference walked: its disk as parts of memory; a file's bytes, an act that counts. -/
set_option linter.unusedVariables false
set_option linter.unusedSimpArgs false
namespace Go.Proofs.Ythphonkiolmkiaa
open Go.RowKit
set_option maxRecDepth 100000
set_option maxHeartbeats 8000000

/-! ### its disk in memory -/
structure RfF where
  x : Fl
  a : Option Addr
  c : Nat
  v : Value
  chs : List (Chg × Option Addr × Nat)
structure RfR where
  fa : Option Addr
  fc : Nat
  sa : Option Addr
  sc : Nat
  na : Option Addr
  nc : Nat
  rv : Value
  fs : List RfF
  ds : List (Dir × Option Addr × Nat)
def rfV (q : RfF) : List Value := [.slice q.a q.x.sure.length q.c, q.v]
def dsV (d : Dir × Option Addr × Nat) : List Value := [.slice d.2.1 d.1.length d.2.2]
def dirsOf : Dir → List Mv → List Dir
  | _, [] => []
  | D, m :: r => dirDo D m :: dirsOf (dirDo D m) r
structure RfFOk (G : Facts) (q : RfF) : Prop where
  sure : G q.a (q.x.sure.map bv)
  c : q.x.sure.length ≤ q.c
  row : q.chs.map (·.1) = q.x.row
  ch : ∀ e ∈ q.chs, G e.2.1 (e.1.b.map bv) ∧ e.1.b.length ≤ e.2.2
structure RfFit (R : RfR) (S : Fs) (G : Facts) : Prop where
  sure : G R.sa (S.sure.flatMap entV)
  sc : S.sure.length ≤ R.sc
  seen : G R.na (S.seen.flatMap entV)
  nc : S.seen.length ≤ R.nc
  files : R.fs.map (·.x) = S.fl
  fs : ∀ q ∈ R.fs, RfFOk G q
  dirs : R.ds.map (·.1) = dirsOf S.sure S.row
  ds : ∀ d ∈ R.ds, G d.2.1 (d.1.flatMap entV) ∧ d.1.length ≤ d.2.2
abbrev rfCells (R : RfR) (room fl sure seen acts fuse : Nat) (dead : Bool) : Array Value := #[nE room, .slice R.fa fl R.fc, .slice R.sa sure R.sc, R.rv, .slice R.na seen R.nc, nE acts, nE fuse, .bool dead]
def rfRow (q : RfF) : Chunk := row 118 3 q.v q.x.row.length (q.chs.flatMap chv)
def rfL (p : Nat) (R : RfR) (S : Fs) : List Chunk :=
  [blk p 105 (rfCells R S.room S.fl.length S.sure.length S.seen.length S.acts S.fuse S.dead), row 113 2 (.slice R.fa S.fl.length R.fc) S.fl.length (R.fs.flatMap rfV), row 102 1 R.rv S.row.length (R.ds.flatMap dsV), tog (R.fs.map rfRow)]

theorem ref_blown {p : Nat} {R : RfR} {room fl sure seen acts fuse : Nat} {dead : Bool} {w0 w : World} {cs : List Chunk} (h : Mem w0 (blk p 105 (rfCells R room fl sure seen acts fuse dead) :: cs) w) (hd : dead = false) (ha : acts < 1000000000) (hf : fuse < 9223372036854775808) :
    Calls Try.prog 94 #[pE p] w (fun en w' => en = .returned (nE (if (if 0 < fuse then decide (fuse = 1) else dead) then 13 else 0)) ∧ Mem w0 (blk p 105 (rfCells R room fl sure seen (acts + 1) (fuse - 1) (if 0 < fuse then decide (fuse = 1) else dead)) :: cs) w') := by
  subst hd
  have HM := Lib.hid h
  have hO := h.ob 0 rfl
  have c5 := hO.cell 5 rfl
  have c6 := hO.cell 6 rfl
  have c7 := hO.cell 7 rfl
  have f5 := hO.free 5
  have f6 := hO.free 6
  have f7 := hO.free 7
  simp only [List.getElem_toArray, List.getElem_cons_zero, List.getElem_cons_succ] at c5 c6 c7
  clear h hO
  by_cases h0 : 0 < fuse
  · have i0 : (0 : Int) < (fuse : Int) := by omega
    rw [if_pos h0]
    by_cases h1 : fuse = 1
    · subst h1
      clear h0
      rw [if_pos (by simp)]
      go_enter Try.func94, Try.ntmps94
      go_wp2_with fail
      go_ret
      have M1 := ((HM.out.put 0 rfl 5 (nE (acts + 1))).put 0 rfl 6 (nE 0)).put 0 rfl 7 (.bool true)
      exact ⟨rfl, M1⟩
    · have i1 : ((fuse : Int) - 1 == 0) = false := by simp; omega
      have e1 : ((fuse : Int) - 1) = ((fuse - 1 : Nat) : Int) := by omega
      have hd : decide (fuse = 1) = false := by simp [h1]
      rw [hd, if_neg (by simp)]
      go_enter Try.func94, Try.ntmps94
      go_wp2_with fail
      go_ret
      have M1 := ((HM.out.put 0 rfl 5 (nE (acts + 1))).put 0 rfl 6 (nE (fuse - 1)))
      exact ⟨rfl, M1⟩
  · have h1 : fuse = 0 := by omega
    subst h1
    rw [if_neg (show ¬ (0 : Nat) < 0 by omega), if_neg (by simp)]
    go_enter Try.func94, Try.ntmps94
    go_wp2_with fail
    go_ret
    have M1 := (HM.out.put 0 rfl 5 (nE (acts + 1)))
    exact ⟨rfl, M1⟩
theorem ref_bytes {a : Nat} {o : Nat} {A : Option Addr} {ca : Nat} {V : Value} (sure : List UInt8) (chs : List (Chg × Option Addr × Nat)) (k : Nat) {now : List UInt8} {w0 w : World} {cs : List Chunk} (h : Mem w0 cs w)
    (h0 : ∀ v, Mem w0 cs v → v.cell? ⟨a, o, none⟩ = some (.slice A sure.length ca) ∧ v.cell? ⟨a, o + 1, none⟩ = some V) (hA : ∀ v, Mem w0 cs v → Rd v A (sure.map bv)) (hca : sure.length ≤ ca) (hs : sure.length ≤ M0)
    (hV : ∀ v, Mem w0 cs v → App v 0 118 3 V chs.length (chs.flatMap chv)) (hc : ∀ e ∈ chs, (∀ v, Mem w0 cs v → Rd v e.2.1 (e.1.b.map bv)) ∧ e.1.b.length ≤ e.2.2) (hok : rowOk sure (chs.map (·.1)) now) (hk : k ≤ chs.length) (hb : chs.length ≤ 1000000000) :
    Calls Try.prog 80 #[.pointer (some ⟨a, o, none⟩), nE k] w (fun en w' => ∃ A' c', en = .returned (.slice A' (((chs.map (·.1)).take k).foldl chDo sure).length c') ∧ Mem w0 (row 5 1 (.slice A' (((chs.map (·.1)).take k).foldl chDo sure).length c') (((chs.map (·.1)).take k).foldl chDo sure).length ((((chs.map (·.1)).take k).foldl chDo sure).map bv) :: cs) w') := by
  have H0 := Lib.hid h0
  have HV := Lib.hid hV
  have HC := Lib.hid hc
  have HOK := Lib.hid hok
  have HD := Lib.hid (ref_done ⟨false, 0, []⟩ A none sure ca 0 h hA (fun v _ => Rd.nil _ _) hs hca (Nat.zero_le _) ⟨Nat.zero_le _, by simp [M0], by simp⟩)
  obtain ⟨c0, c1⟩ := h0 w h
  clear h hA hV hc h0 hok
  go_enter Try.func80, Try.ntmps80
  go_wp2_with fail
  refine HD.out.mono ?_
  rintro en w1 ⟨A1, c1', rfl, M1⟩
  have e0 : chDo sure ⟨false, 0, []⟩ = sure := by simp [chDo]
  rw [e0] at M1 ⊢
  have HM1 := Lib.hid M1
  clear M1 HD c0 c1 e0
  go_wp2_with fail
  go_loopw [5, 6] (fun v5 v6 wr => ∃ (j : Nat) (A5 : Option Addr) (c5 : Nat), v6 = .int .i64 j ∧ j ≤ k ∧ v5 = .slice A5 (((chs.map (·.1)).take j).foldl chDo sure).length c5 ∧ Hid (Mem w0 (row 5 1 (.slice A5 (((chs.map (·.1)).take j).foldl chDo sure).length c5) (((chs.map (·.1)).take j).foldl chDo sure).length ((((chs.map (·.1)).take j).foldl chDo sure).map bv) :: cs) wr)) (fun _ v6 _ => k - (intOf v6).toNat)
  case atStart => exact ⟨0, A1, c1', rfl, Nat.zero_le _, rfl, HM1.out⟩
  case round =>
    obtain ⟨j, A5, c5, rfl, hj, rfl, HS⟩ := hrel
    clear HM1
    by_cases hlt : j < k
    case pos =>
      have hjl : j < chs.length := by omega
      obtain ⟨⟨ch, B, cB⟩, hq⟩ : ∃ q, chs[j]? = some q := ⟨_, List.getElem?_eq_getElem hjl⟩
      obtain ⟨hF, hcB⟩ := HC.out _ (List.mem_of_getElem? hq)
      simp only at hF hcB
      have hch : (chs.map (·.1))[j]? = some ch := by rw [List.getElem?_map, hq]; rfl
      have happ := HV.out _ HS.out.drop
      obtain ⟨Av, cv, rfl, hcv⟩ := happ.slice
      obtain ⟨bb, oo, rfl, hcell⟩ := Rd.rec (f := chv) (k := 3) (fun _ => rfl) happ.rd.1 hq (by omega)
      have k0 : wr.cell? ⟨bb, oo + j * 3, none⟩ = some (.bool ch.cut) := hcell 0 _ rfl
      have k1 : wr.cell? ⟨bb, oo + j * 3 + 1, none⟩ = some (nE ch.off) := hcell 1 _ rfl
      have k2 : wr.cell? ⟨bb, oo + j * 3 + 2, none⟩ = some (.slice B ch.b.length cB) := hcell 2 _ rfl
      have c1 := (H0.out _ HS.out.drop).2
      have hok := rowOk_at HOK.out hch
      have hlen : (((chs.map (·.1)).take j).foldl chDo sure).length ≤ M0 := rowOk_len (rowOk_take HOK.out j) hs
      have hfold : ((chs.map (·.1)).take (j + 1)).foldl chDo sure = chDo (((chs.map (·.1)).take j).foldl chDo sure) ch := by
        rw [List.take_add_one, hch, List.foldl_append]; rfl
      have hcap : (((chs.map (·.1)).take j).foldl chDo sure).length ≤ c5 := by obtain ⟨_, _, e, h⟩ := (HS.out.app 0 rfl).slice; cases e; exact h
      have HD := Lib.hid (ref_done ch A5 B _ c5 cB HS.out (fun v m => (m.app 0 rfl).rd.1) (fun v m => hF v m.drop) hlen hcap hcB hok)
      have HFO := Lib.hid hfold
      have hlt2 : (j : Int) < (k : Int) := by omega
      have hjl2 : (j : Int) < (chs.length : Int) := by omega
      clear HS happ hcell hok hfold hF hch hq hlen hcap
      go_wp2_with fail
      refine HD.out.mono ?_
      rintro en w4 ⟨A4, c4, rfl, M4⟩
      rw [← HFO.out] at M4 ⊢
      have HM4 := Lib.hid (M4.bring 1).drop
      clear M4 HD k0 k1 k2
      go_wp2_with fail
      go_roundw
      case rel => exact ⟨j + 1, A4, c4, rfl, hlt, rfl, HM4.out⟩
      case measure => simp [intOf]; omega
    case neg =>
      obtain rfl : j = k := by omega
      have hlt2 : ¬ ((j : Int) < (j : Int)) := by omega
      go_wp2_with fail
      go_ret
      exact ⟨A5, c5, rfl, HS.out⟩
end Go.Proofs.Ythphonkiolmkiaa
/- Layer 14, the reference walked: a file as it is now, a name's file. -/
set_option linter.unusedVariables false
set_option linter.unusedSimpArgs false
namespace Go.Proofs.Ythphonkiolmkiaa
open Go.RowKit
set_option maxRecDepth 100000
set_option maxHeartbeats 8000000

theorem Mem.inTog {w0 w : World} {cs l : List Chunk} (h : Mem w0 cs w) (i : Nat) (hi : cs[i]? = some (tog l)) {j : Nat} {A : Chunk} (hj : l[j]? = some A) : ∃ ds, Mem w0 (A :: ds) w := by
  have h1 := h.bring i
  have h2 : Go.Proofs.Ythphonkiolmkiaa.bring i cs = tog l :: cs.eraseIdx i := by unfold Go.Proofs.Ythphonkiolmkiaa.bring; rw [hi]
  rw [h2] at h1
  exact ⟨_, h1.pick j hj⟩
section
variable {w0 w : World} {cs : List Chunk} {p n : Nat} {R : RfR} {S : Fs} {G : Facts} {x : Fl}
theorem RfFit.at (hf : RfFit R S G) (hx : S.fl[n]? = some x) : ∃ q, R.fs[n]? = some q ∧ q.x = x := by
  rw [← hf.files, List.getElem?_map] at hx
  obtain ⟨q, h1, h2⟩ := Option.map_eq_some_iff.1 hx
  exact ⟨q, h1, h2⟩
theorem rf_cells (h : Mem w0 (rfL p R S ++ pool G :: cs) w) {q : RfF} (hq : R.fs[n]? = some q) : ∃ b o, R.fa = some ⟨b, o, none⟩ ∧ w.cell? ⟨b, o + n * 2, none⟩ = some (.slice q.a q.x.sure.length q.c) ∧ w.cell? ⟨b, o + n * 2 + 1, none⟩ = some q.v := by
  obtain ⟨b, o, e, hc⟩ := Rd.rec (f := rfV) (k := 2) (fun _ => rfl) (h.app 1 rfl).rd.1 hq (by omega)
  exact ⟨b, o, e, hc 0 _ rfl, hc 1 _ rfl⟩
theorem ref_bytesAt {b o k : Nat} (h : Mem w0 (rfL p R S ++ pool G :: cs) w) (hf : RfFit R S G) (ho : FsOk S) (ha : S.acts < 1000000000) (hx : S.fl[n]? = some x) (hfa : R.fa = some ⟨b, o, none⟩) (hk : k ≤ x.row.length) :
    Calls Try.prog 80 #[.pointer (some ⟨b, o + n * 2, none⟩), nE k] w (fun en w' => ∃ A' c', en = .returned (.slice A' ((x.row.take k).foldl chDo x.sure).length c') ∧ Mem w0 (row 5 1 (.slice A' ((x.row.take k).foldl chDo x.sure).length c') ((x.row.take k).foldl chDo x.sure).length (((x.row.take k).foldl chDo x.sure).map bv) :: (rfL p R S ++ pool G :: cs)) w') := by
  obtain ⟨q, hq, rfl⟩ := hf.at hx
  have hxo := ho.files _ (List.mem_of_getElem? hx)
  have hqo := hf.fs _ (List.mem_of_getElem? hq)
  have hlen : q.chs.length = q.x.row.length := by rw [← hqo.row, List.length_map]
  have hbig := ho.frow _ (List.mem_of_getElem? hx)
  have key := ref_bytes q.x.sure q.chs k (a := b) (o := o + n * 2) (A := q.a) (ca := q.c) (V := q.v) (now := q.x.now) h
    (fun v m => by
      obtain ⟨b', o', e, h1, h2⟩ := rf_cells m hq
      rw [hfa] at e
      cases e
      exact ⟨h1, h2⟩)
    (fun v m => m.rd 4 rfl hqo.sure) hqo.c hxo.sure
    (fun v m => by
      obtain ⟨ds, m1⟩ := m.inTog 3 rfl (j := n) (A := rfRow q) (by rw [List.getElem?_map, hq]; rfl)
      have h1 := m1.app 0 rfl
      rw [← hlen] at h1
      exact h1)
    (fun e he => ⟨fun v m => m.rd 4 rfl (hqo.ch e he).1, (hqo.ch e he).2⟩)
    (by rw [hqo.row]; exact hxo.row) (by omega) (by omega)
  rw [hqo.row] at key
  exact key
theorem ref_now {b o : Nat} (h : Mem w0 (rfL p R S ++ pool G :: cs) w) (hf : RfFit R S G) (ho : FsOk S) (ha : S.acts < 1000000000) (hx : S.fl[n]? = some x) (hfa : R.fa = some ⟨b, o, none⟩) :
    Calls Try.prog 91 #[.pointer (some ⟨b, o + n * 2, none⟩)] w (fun en w' => ∃ A' c', en = .returned (.slice A' x.now.length c') ∧ Mem w0 (row 5 1 (.slice A' x.now.length c') x.now.length (x.now.map bv) :: (rfL p R S ++ pool G :: cs)) w') := by
  have HB := ref_bytesAt h hf ho ha hx hfa (Nat.le_refl _)
  rw [List.take_length, rowOk_all (ho.files _ (List.mem_of_getElem? hx)).row] at HB
  obtain ⟨q, hq, rfl⟩ := hf.at hx
  obtain ⟨b', o', e, h1, h2⟩ := rf_cells h hq
  rw [hfa] at e
  cases e
  obtain ⟨ds, m1⟩ := h.inTog 3 rfl (j := n) (A := rfRow q) (by rw [List.getElem?_map, hq]; rfl)
  obtain ⟨Av, cv, hv, _⟩ := (m1.app 0 rfl).slice
  rw [hv] at h2
  have HBH := Lib.hid HB
  clear HB h1 m1 h hf ho hx hfa hq
  go_enter Try.func91, Try.ntmps91
  go_wp2_with fail
  refine HBH.out.mono ?_
  rintro en w1 ⟨A1, c1, rfl, M1⟩
  have HM1 := Lib.hid M1
  clear M1 HBH
  go_wp2_with fail
  go_ret
  exact ⟨A1, c1, rfl, HM1.out⟩
theorem ref_get (s : ByteArray) (h : Mem w0 (rfL p R S ++ pool G :: cs) w) (hf : RfFit R S G) (ho : FsOk S) :
    Calls Try.prog 89 #[pE p, sE s] w (fun en w' => en = .returned (.tuple #[nE (if getE S s = 0 then getN S s - 1 else 0), nE (getE S s)]) ∧ w' = w) := by
  have hO := h.ob 0 rfl
  have c4 := hO.cell 4 rfl
  have c7 := hO.cell 7 rfl
  simp only [List.getElem_toArray, List.getElem_cons_zero, List.getElem_cons_succ] at c4 c7
  have HF := Lib.hid (ref_find R.na S.seen R.nc s w (h.rd 4 rfl hf.seen) (by have := ho.seen.len; omega))
  have HR := Lib.hid (h.rd 4 rfl hf.seen)
  have HND := Lib.hid ho.seen.ok.nd
  clear h hf ho hO
  cases hd : S.dead
  case true =>
    have he : getE S s = 13 := by unfold getE; rw [hd]; rfl
    rw [he]
    rw [hd] at c7
    clear he hd
    go_enter Try.func89, Try.ntmps89
    go_wp2_with fail
    go_ret2
    exact ⟨rfl, rfl⟩
  case false =>
    have HE := Lib.hid hd
    rw [hd] at c7
    clear hd
    obtain ⟨g, hg⟩ : ∃ g, g = (if getE S s = 0 then getN S s - 1 else 0) := ⟨_, rfl⟩
    rw [← hg]
    obtain ⟨e, he⟩ : ∃ e, e = getE S s := ⟨_, rfl⟩
    rw [← he]
    have HG := Lib.hid (And.intro hg he)
    clear hg he
    go_enter Try.func89, Try.ntmps89
    go_wp2_with fail
    refine HF.out.mono ?_
    rintro en w1 ⟨r, rfl, rfl, hh⟩
    rcases hh with ⟨rfl, hm⟩ | ⟨i, n, rfl, hi⟩
    · have h1 : e = 7 := by rw [HG.out.2]; unfold getE; rw [HE.out, hm]; rfl
      have h2 : g = 0 := by rw [HG.out.1, if_neg (by rw [← HG.out.2, h1]; omega)]
      subst h1
      subst h2
      clear HG HF hm
      go_wp2_with fail
      go_ret2
      exact ⟨rfl, rfl⟩
    · have hm := mGet_at HND.out hi
      have h1 : e = 0 := by rw [HG.out.2]; unfold getE; rw [HE.out, hm]; rfl
      have h2 : g = n - 1 := by rw [HG.out.1, if_pos (by rw [← HG.out.2, h1])]; unfold getN; rw [hm]; rfl
      have h3 : i < S.seen.length := (List.getElem?_eq_some_iff.1 hi).1
      obtain ⟨bb, o, e3, hcell⟩ := Rd.rec (f := entV) (k := 2) (fun _ => rfl) HR.out hi (by omega)
      have k1 : w1.cell? ⟨bb, o + i * 2 + 1, none⟩ = some (nE (n - 1)) := hcell 1 _ rfl
      rw [e3] at c4
      subst h1
      subst h2
      have i1 : (i : Int) < (S.seen.length : Int) := by omega
      have i2 : ¬ (i : Int) < 0 := by omega
      clear HG HF hm hi hcell HR e3
      go_wp2_with fail
      go_ret2
      exact ⟨rfl, rfl⟩
end
end Go.Proofs.Ythphonkiolmkiaa
/- Layer 14, the reference walked: the directory becomes another one. -/
set_option linter.unusedVariables false
set_option linter.unusedSimpArgs false
namespace Go.Proofs.Ythphonkiolmkiaa
open Go.RowKit
set_option maxRecDepth 100000
set_option maxHeartbeats 8000000

theorem dirsOf_len : ∀ (r : List Mv) (D : Dir), (dirsOf D r).length = r.length
  | [], _ => rfl
  | m :: r, D => by simp [dirsOf, dirsOf_len r]
theorem dirsOf_snoc : ∀ (r : List Mv) (D : Dir) (m : Mv), dirsOf D (r ++ [m]) = dirsOf D r ++ [dirDo (r.foldl dirDo D) m]
  | [], _, _ => rfl
  | m' :: r, D, m => by
    show dirDo D m' :: dirsOf (dirDo D m') (r ++ [m]) = _
    rw [dirsOf_snoc r]
    rfl
theorem dirsOf_at : ∀ (r : List Mv) (D : Dir) (k : Nat), k < r.length → (dirsOf D r)[k]? = some ((r.take (k + 1)).foldl dirDo D)
  | [], _, k, h => by simp at h
  | m :: r, D, 0, _ => by simp [dirsOf]
  | m :: r, D, k + 1, h => by
    show (dirsOf (dirDo D m) r)[k]? = _
    rw [dirsOf_at r (dirDo D m) k (by simpa using h)]
    rfl
theorem RfFit.mono {R : RfR} {S : Fs} {G G' : Facts} (h : RfFit R S G) (k : ∀ A l, G A l → G' A l) : RfFit R S G' :=
  ⟨k _ _ h.sure, h.sc, k _ _ h.seen, h.nc, h.files, fun q hq => ⟨k _ _ (h.fs q hq).sure, (h.fs q hq).c, (h.fs q hq).row, fun e he => ⟨k _ _ ((h.fs q hq).ch e he).1, ((h.fs q hq).ch e he).2⟩⟩, h.dirs, fun d hd => ⟨k _ _ (h.ds d hd).1, (h.ds d hd).2⟩⟩
def rfE (S : Fs) : Nat := if S.dead then 13 else 0
theorem ref_turn {p : Nat} {R : RfR} {S : Fs} {G : Facts} {A : Option Addr} {c : Nat} (m : Mv) {w0 w : World} {cs : List Chunk} (h : Mem w0 (rfL p R S ++ pool G :: cs) w) (hf : RfFit R S G) (hm : S.row.foldl dirDo S.sure = S.seen) (hd : S.dead = false) (ha : S.acts < 1000000000) (hfu : S.fuse < 9223372036854775808) (hrl : S.row.length ≤ S.acts)
    (hG : G A ((dirDo S.seen m).flatMap entV)) (hc : (dirDo S.seen m).length ≤ c) :
    Calls Try.prog 87 #[pE p, .slice A (dirDo S.seen m).length c] w (fun en w' => ∃ R', en = .returned (nE (endE (fails (turn S m))).2) ∧ RfFit R' (fails (turn S m)) G ∧ Mem w0 (rfL p R' (fails (turn S m)) ++ pool G :: cs) w') := by
  obtain ⟨L, hL⟩ : ∃ L, L = dirDo S.seen m := ⟨_, rfl⟩
  rw [← hL] at hG hc ⊢
  have HF := Lib.hid (And.intro hf (And.intro hm (And.intro hG hc)))
  have HL := Lib.hid (And.intro ha (And.intro hfu hrl))
  have HLL := Lib.hid hL
  have HD := Lib.hid hd
  have HM := Lib.hid h
  have f4 := (h.ob 0 rfl).free 4
  have c4 : w.cell? ⟨p, 4, none⟩ = some (.slice R.na S.seen.length R.nc) := (h.ob 0 rfl).cell 4 rfl
  obtain ⟨er, her⟩ : ∃ e, e = (endE (fails (turn S m))).2 := ⟨_, rfl⟩
  rw [← her]
  have HER := Lib.hid her
  clear hf hm hG hc ha hfu hrl hL hd h her
  go_enter Try.func87, Try.ntmps87
  go_upto_region 2 with (fail)
  have M1 := HM.out.put 0 rfl 4 (.slice A L.length c)
  have HM1 := Lib.hid (show Mem w0 (blk p 105 (rfCells {R with na := A, nc := c} S.room S.fl.length S.sure.length L.length S.acts S.fuse S.dead) :: row 113 2 (.slice R.fa S.fl.length R.fc) S.fl.length (R.fs.flatMap rfV) :: row 102 1 R.rv S.row.length (R.ds.flatMap dsV) :: tog (R.fs.map rfRow) :: pool G :: cs) (w.setCell ⟨p, 4, none⟩ (.slice A L.length c)) from M1)
  clear M1 HM f4 c4
  generalize w.setCell ⟨p, 4, none⟩ (.slice A L.length c) = v at HM1 ⊢
  obtain ⟨Av, cv, hrv, hcv⟩ := (HM1.out.app 2 rfl).slice
  have c3 : v.cell? ⟨p, 3, none⟩ = some (.slice Av S.row.length cv) := by rw [← hrv]; exact (HM1.out.ob 0 rfl).cell 3 rfl
  have happ := HM1.out.app 2 rfl
  rw [hrv] at happ
  have HAPP := Lib.hid happ
  have HRV := Lib.hid hrv
  clear hrv happ
  go_upto_region 3 with (at_builtin; go_must (refine append_one rfl _ _ 103 102 (.slice none 0 0) 1 24 rfl Try.underlying103 (by kernel_rfl) rfl (by decide) 0 (ys := [.slice A L.length c]) HAPP.out (by rfl) (by rfl) (by rfl) (by intro u hu; simp at hu; subst hu; rfl) (by have := HL.out; omega) (by have := HL.out; omega) (Nat.zero_le _) ?_); intro v7 w7 hown7 hgr7 hat7; obtain ⟨A7, c7, rfl, hcc7⟩ := hown7.slice; rw [← HRV.out] at hgr7 hat7; have M7 := HM1.out.growOne 2 rfl hown7 hgr7 hat7; have n3 : w7.cell? ⟨p, 3, none⟩ = some R.rv := (M7.ob 0 rfl).cell 3 rfl; have nf3 : w7.frozen? ⟨p, 3, none⟩ = false := (M7.ob 0 rfl).free 3)
  have M8 := M7.put 0 rfl 3 (.slice A7 (S.row.length + 1) c7)
  obtain ⟨R', hR'⟩ : ∃ R' : RfR, R' = {R with na := A, nc := c, rv := .slice A7 (S.row.length + 1) c7, ds := R.ds ++ [(L, A, c)]} := ⟨_, rfl⟩
  have hfit : RfFit R' (fails (turn S m)) G := by
    obtain ⟨hf, hm, hG, hc⟩ := HF.out
    subst hR'
    have hl := HLL.out
    refine ⟨hf.sure, hf.sc, ?_, ?_, hf.files, hf.fs, ?_, ?_⟩
    · show G A ((dirDo S.seen m).flatMap entV)
      rw [← hl]; exact hG
    · show (dirDo S.seen m).length ≤ c
      rw [← hl]; exact hc
    · show (R.ds ++ [(L, A, c)]).map (·.1) = dirsOf S.sure (S.row ++ [m])
      rw [dirsOf_snoc, hm, ← hl, List.map_append, hf.dirs]; rfl
    · intro d hd
      rcases List.mem_append.1 hd with hd | hd
      · exact hf.ds d hd
      · simp at hd; subst hd; exact ⟨hG, hc⟩
  have HFIT := Lib.hid hfit
  have HM8 := Lib.hid (show Mem w0 (blk p 105 (rfCells R' S.room S.fl.length S.sure.length L.length S.acts S.fuse S.dead) :: row 113 2 (.slice R'.fa S.fl.length R'.fc) S.fl.length (R'.fs.flatMap rfV) :: row 102 1 R'.rv (S.row.length + 1) (R'.ds.flatMap dsV) :: tog (R'.fs.map rfRow) :: pool G :: cs) (w7.setCell ⟨p, 3, none⟩ (.slice A7 (S.row.length + 1) c7)) by
    subst hR'
    have e1 : (R.ds ++ [(L, A, c)]).flatMap dsV = R.ds.flatMap dsV ++ [.slice A L.length c] := by simp [dsV]
    show Mem w0 (_ :: _ :: row 102 1 (.slice A7 (S.row.length + 1) c7) (S.row.length + 1) ((R.ds ++ [(L, A, c)]).flatMap dsV) :: _) _
    rw [e1]
    exact M8)
  have HB := Lib.hid (ref_blown HM8.out HD.out HL.out.1 HL.out.2.1)
  clear M7 M8 hfit hR' n3 nf3 hown7 hgr7 hat7 HM8 HM1
  generalize w7.setCell ⟨p, 3, none⟩ (.slice A7 (S.row.length + 1) c7) = v8 at HB ⊢
  go_wp2_with fail
  refine HB.out.mono ?_
  rintro en w9 ⟨rfl, M9⟩
  have e9 : (if (if 0 < S.fuse then decide (S.fuse = 1) else S.dead) = true then 13 else 0) = er := by rw [HER.out]; rfl
  rw [e9]
  have HM9 := Lib.hid M9
  clear M9 HB e9
  go_wp2_with fail
  go_ret
  refine ⟨R', rfl, HFIT.out, ?_⟩
  have h9 := HM9.out
  have e2 : L.length = (fails (turn S m)).seen.length := by rw [HLL.out]; rfl
  have e3 : S.row.length + 1 = (fails (turn S m)).row.length := by show _ = (S.row ++ [m]).length; simp
  rw [e2, e3] at h9
  exact h9
end Go.Proofs.Ythphonkiolmkiaa
/- Layer 14, the reference walked: an act more of a file. -/
set_option linter.unusedVariables false
set_option linter.unusedSimpArgs false
namespace Go.Proofs.Ythphonkiolmkiaa
open Go.RowKit
set_option maxRecDepth 100000
set_option maxHeartbeats 8000000

theorem Mem.rowStore {w0 w : World} {cs : List Chunk} (h : Mem w0 cs w) (k : Nat) {T : TypeId} {size n c g o : Nat} {xs : List Value} (hk : cs[k]? = some (Go.Proofs.Ythphonkiolmkiaa.row T size (.slice (some ⟨g, o, none⟩) n c) n xs)) (i : Nat) (hi : i < n * size) (u : Value) :
    Mem w0 (cs.set k (Go.Proofs.Ythphonkiolmkiaa.row T size (.slice (some ⟨g, o, none⟩) n c) n (xs.set i u))) (w.setCell ⟨g, o + i, none⟩ u) :=
  h.wrote k hk ((h.app k hk).store i hi u).1 ((h.app k hk).store i hi u).2
theorem rfV_set : ∀ (l : List RfF) (n : Nat) (q q' : RfF) (u : Value), l[n]? = some q → q'.a = q.a → q'.c = q.c → q'.x.sure = q.x.sure → q'.v = u → (l.flatMap rfV).set (n * 2 + 1) u = (l.set n q').flatMap rfV
  | [], n, q, q', u, h, _, _, _, _ => by simp at h
  | y :: l, 0, q, q', u, h, h1, h2, h3, h4 => by
    simp at h; subst h
    simp [rfV, h1, h2, h3, h4]
  | y :: l, n + 1, q, q', u, h, h1, h2, h3, h4 => by
    have ih := rfV_set l n q q' u (by simpa using h) h1 h2 h3 h4
    rw [List.flatMap_cons, List.set_cons_succ, List.flatMap_cons, ← ih]
    show (rfV y ++ l.flatMap rfV).set ((n + 1) * 2 + 1) u = _
    rw [List.set_append_right _ _ (by simp [rfV]; omega)]
    congr 1
    simp [rfV]
    rw [show (n + 1) * 2 - 1 = n * 2 + 1 by omega]
theorem Try.infoAct : (Try.prog.info? 118).map (fun i => (i.zero, i.size, i.bytes)) = some (some (.agg #[.bool false, .int .i64 0, .slice none 0 0]), 3, 40) := by kernel_rfl
theorem set_map {α β : Type} (f : α → β) : ∀ (l : List α) (n : Nat) (a : α), (l.set n a).map f = (l.map f).set n (f a) := by
  intro l n a
  rw [List.map_set]
theorem ref_add {p n : Nat} {R : RfR} {S : Fs} {G : Facts} {x : Fl} {B : Option Addr} {cB : Nat} (c : Chg) {w0 w : World} {cs : List Chunk} (h : Mem w0 (rfL p R S ++ pool G :: cs) w) (hf : RfFit R S G) (ho : FsOk S) (hx : S.fl[n]? = some x) (hd : S.dead = false) (ha : S.acts < 1000000000)
    (hG : G B (c.b.map bv)) (hcB : c.b.length ≤ cB) :
    Calls Try.prog 90 #[pE p, nE n, .agg #[.bool c.cut, nE c.off, .slice B c.b.length cB]] w (fun en w' => ∃ R', en = .returned (nE (endE (fails (change S n c))).2) ∧ RfFit R' (fails (change S n c)) G ∧ Mem w0 (rfL p R' (fails (change S n c)) ++ pool G :: cs) w') := by
  obtain ⟨q, hq, hqx⟩ := hf.at hx
  obtain ⟨b, o, hfa, _⟩ := rf_cells h hq
  have hrl := ho.frow x (List.mem_of_getElem? hx)
  have hfu := ho.fuse
  have hnl : n < S.fl.length := (List.getElem?_eq_some_iff.1 hx).1
  have hqm : (R.fs.map rfRow)[n]? = some (rfRow q) := by rw [List.getElem?_map, hq]; rfl
  have h1 := (h.bring 3).pick n hqm
  have HM := Lib.hid (h1.alloc (.cells #[.bool c.cut, nE c.off, .slice B c.b.length cB] 118))
  obtain ⟨er, her⟩ : ∃ e, e = (endE (fails (change S n c))).2 := ⟨_, rfl⟩
  rw [← her]
  have HER := Lib.hid her
  have HF := Lib.hid (And.intro hf (And.intro hq (And.intro hqx (And.intro hG (And.intro hcB hqm)))))
  have HFL := Lib.hid (And.intro ho.flen hnl)
  have HX := Lib.hid hx
  have HD := Lib.hid hd
  have HL := Lib.hid (And.intro ha (And.intro hfu hrl))
  clear h h1 hf ho hx hd ha hG hcB hq hrl hfu her hqm
  go_enter Try.func90, Try.ntmps90
  go_upto_region 1 with (fail)
  generalize w.alloc (.cells #[.bool c.cut, nE c.off, .slice B c.b.length cB] 118) = v at HM ⊢
  generalize w.heap.size = g at HM ⊢
  have k0 : v.cell? ⟨g, 0, none⟩ = some (.bool c.cut) := (HM.out.ob 0 rfl).cell 0 rfl
  have k1 : v.cell? ⟨g, 1, none⟩ = some (nE c.off) := (HM.out.ob 0 rfl).cell 1 rfl
  have k2 : v.cell? ⟨g, 2, none⟩ = some (.slice B c.b.length cB) := (HM.out.ob 0 rfl).cell 2 rfl
  have FC := fun (cs' : List Chunk) (i : Nat) (u : World) (m : Mem w0 cs' u) (hi : cs'[i]? = some (row 113 2 (.slice R.fa S.fl.length R.fc) S.fl.length (R.fs.flatMap rfV))) => show u.cell? ⟨b, o + n * 2 + 1, none⟩ = some q.v ∧ u.frozen? ⟨b, o + n * 2 + 1, none⟩ = false from by
    have ha := m.app i hi
    obtain ⟨b', o', e, hc⟩ := Rd.rec (f := rfV) (k := 2) (fun _ => rfl) ha.rd.1 HF.out.2.1 (by omega)
    rw [hfa] at e ha
    cases e
    exact ⟨hc 1 _ rfl, ha.frozen _⟩
  have HFC := Lib.hid FC
  clear FC
  obtain ⟨Av, cv, hqv, hcv⟩ := (HM.out.app 1 rfl).slice
  have HQV := Lib.hid hqv
  have c1 : v.cell? ⟨p, 1, none⟩ = some (.slice (some ⟨b, o, none⟩) S.fl.length R.fc) := by rw [← hfa]; exact (HM.out.ob 3 rfl).cell 1 rfl
  have e1 : v.cell? ⟨b, o + n * 2 + 1, none⟩ = some (.slice Av q.x.row.length cv) := by rw [← hqv]; exact (HFC.out _ 4 _ HM.out rfl).1
  have HFA := Lib.hid hfa
  have i1 : (n : Int) < (S.fl.length : Int) := by omega
  have ma := HM.out.alloc (.cells #[.bool c.cut, nE c.off, .slice B c.b.length cB] 118)
  have MA := Lib.hid ma.drew
  have c2 : (v.alloc (.cells #[.bool c.cut, nE c.off, .slice B c.b.length cB] 118)).cell? ⟨p, 1, none⟩ = some (.slice (some ⟨b, o, none⟩) S.fl.length R.fc) := by rw [← hfa]; exact (ma.ob 4 rfl).cell 1 rfl
  have e2 : (v.alloc (.cells #[.bool c.cut, nE c.off, .slice B c.b.length cB] 118)).cell? ⟨b, o + n * 2 + 1, none⟩ = some (.slice Av q.x.row.length cv) := by rw [← hqv]; exact (HFC.out _ 5 _ ma rfl).1
  have l0 : (v.alloc (.cells #[.bool c.cut, nE c.off, .slice B c.b.length cB] 118)).cell? ⟨g, 0, none⟩ = some (.bool c.cut) := (ma.ob 1 rfl).cell 0 rfl
  have l1 : (v.alloc (.cells #[.bool c.cut, nE c.off, .slice B c.b.length cB] 118)).cell? ⟨g, 1, none⟩ = some (nE c.off) := (ma.ob 1 rfl).cell 1 rfl
  have l2 : (v.alloc (.cells #[.bool c.cut, nE c.off, .slice B c.b.length cB] 118)).cell? ⟨g, 2, none⟩ = some (.slice B c.b.length cB) := (ma.ob 1 rfl).cell 2 rfl
  have happ := MA.out.app 2 rfl
  rw [hqv] at happ
  have HAPP := Lib.hid happ
  have RN := Lib.hid (show Rd (v.alloc (.cells #[.bool c.cut, nE c.off, .slice B c.b.length cB] 118)).drew (some ⟨v.heap.size, 0, none⟩) [.bool c.cut, nE c.off, .slice B c.b.length cB] from by
    have h := rd_of_block (heap_alloc_new v (.cells #[.bool c.cut, nE c.off, .slice B c.b.length cB] 118)) 0 3
    exact Rd.bl (by simpa using h) (Bl.refl _).drew)
  have hrl2 : q.x.row.length ≤ 1000000000 := by have := HL.out; rw [HF.out.2.2.1]; omega
  clear hqv happ hfa hnl hqx ma
  go_cut [] (fun wx => ∃ (A4 : Option Addr) (c4 : Nat), Hid (Mem w0 (blk g 118 #[.bool c.cut, nE c.off, .slice B c.b.length cB] :: row 118 3 (.slice A4 (q.x.row.length + 1) c4) (q.x.row.length + 1) (q.chs.flatMap chv ++ [.bool c.cut, nE c.off, .slice B c.b.length cB]) :: tog ((R.fs.map rfRow).eraseIdx n) :: blk p 105 (rfCells R S.room S.fl.length S.sure.length S.seen.length S.acts S.fuse S.dead) :: row 113 2 (.slice R.fa S.fl.length R.fc) S.fl.length ((R.fs.flatMap rfV).set (n * 2 + 1) (.slice A4 (q.x.row.length + 1) c4)) :: row 102 1 R.rv S.row.length (R.ds.flatMap dsV) :: pool G :: cs) wx))
  case first =>
    go_region_law (refine step_row rfl _ _ 111 118 (.agg #[.bool false, .int .i64 0, .slice none 0 0]) 3 40 (by rfl) Try.underlying111 Try.infoAct rfl (by decide) 0 HAPP.out (by rfl) (by rfl) RN.out (by simp) (by intro u hu; simp at hu; rcases hu with rfl | rfl | rfl <;> rfl) (by omega) (by omega) (Nat.zero_le _) ?_; intro v4 w4 hown4 hgr4 hat4; obtain ⟨A4, c4, rfl, hcc4⟩ := hown4.slice; rw [← HQV.out] at hgr4 hat4; have M4 := (MA.out.grow 2 rfl hown4 hgr4 hat4).drop; have c3 : w4.cell? ⟨p, 1, none⟩ = some (.slice (some ⟨b, o, none⟩) S.fl.length R.fc) := (by rw [← HFA.out]; exact (M4.ob 3 rfl).cell 1 rfl); have e3 : w4.cell? ⟨b, o + n * 2 + 1, none⟩ = some (.slice Av q.x.row.length cv) := (by rw [← HQV.out]; exact (HFC.out _ 4 _ M4 rfl).1); have m0 : w4.cell? ⟨g, 0, none⟩ = some (.bool c.cut) := (M4.ob 0 rfl).cell 0 rfl; have m1 : w4.cell? ⟨g, 1, none⟩ = some (nE c.off) := (M4.ob 0 rfl).cell 1 rfl; have m2 : w4.cell? ⟨g, 2, none⟩ = some (.slice B c.b.length cB) := (M4.ob 0 rfl).cell 2 rfl; have ef3 := (HFC.out _ 4 _ M4 rfl).2; have M5 := fun u => M4.rowStore 4 (n := S.fl.length) (c := R.fc) (g := b) (o := o) (by rw [← HFA.out]; rfl) (n * 2 + 1) (by have := HFL.out.2; omega) u)
    all_goals
      go_wp2_with fail
      go_meet
      case rel =>
        refine ⟨A4, c4, ?_⟩
        rw [HFA.out]
        exact M5 _
  case rest =>
    obtain ⟨A4, c4, HM2⟩ := hcut
    clear HM MA HAPP RN k0 k1 k2 c1 e1 c2 e2 l0 l1 l2
    obtain ⟨hf, hq, hqx, hG, hcB, hqm⟩ := HF.out
    have hx := HX.out
    obtain ⟨V, hV⟩ : ∃ V, V = (Value.slice A4 (q.x.row.length + 1) c4) := ⟨_, rfl⟩
    obtain ⟨q', hq'⟩ : ∃ q' : RfF, q' = ⟨⟨x.sure, chDo x.now c, x.row ++ [c]⟩, q.a, q.c, V, q.chs ++ [(c, B, cB)]⟩ := ⟨_, rfl⟩
    have hnl : n < R.fs.length := (List.getElem?_eq_some_iff.1 hq).1
    have hq2 := hf.fs q (List.mem_of_getElem? hq)
    have hmod : S.fl.modify n (fun x => { x with now := chDo x.now c, row := x.row ++ [c] }) = S.fl.set n ⟨x.sure, chDo x.now c, x.row ++ [c]⟩ := modify_set hx _
    have hflen : (S.fl.modify n (fun x => { x with now := chDo x.now c, row := x.row ++ [c] })).length = S.fl.length := List.length_modify _ _ _
    obtain ⟨R', hR'⟩ : ∃ R' : RfR, R' = {R with fs := R.fs.set n q'} := ⟨_, rfl⟩
    have hq'ok : RfFOk G q' := by
      subst hq'
      refine ⟨?_, ?_, ?_, ?_⟩
      · have := hq2.sure; rw [hqx] at this; exact this
      · have := hq2.c; rw [hqx] at this; exact this
      · show (q.chs ++ [(c, B, cB)]).map (·.1) = x.row ++ [c]
        rw [List.map_append, hq2.row, hqx]; rfl
      · intro e he
        rcases List.mem_append.1 he with he | he
        · exact hq2.ch e he
        · simp at he; subst he; exact ⟨hG, hcB⟩
    have hfit : RfFit R' (fails (change S n c)) G := by
      subst hR'
      refine ⟨hf.sure, hf.sc, hf.seen, hf.nc, ?_, ?_, hf.dirs, hf.ds⟩
      · show (R.fs.set n q').map (·.x) = S.fl.modify n (fun x => { x with now := chDo x.now c, row := x.row ++ [c] })
        rw [hmod, List.map_set, hf.files, hq']
      · intro y hy
        rcases List.mem_or_eq_of_mem_set hy with hy | rfl
        · exact hf.fs y hy
        · exact hq'ok
    have hsetV : (R.fs.flatMap rfV).set (n * 2 + 1) V = (R.fs.set n q').flatMap rfV := rfV_set R.fs n q q' V hq (by rw [hq']) (by rw [hq']) (by rw [hq', hqx]) (by rw [hq'])
    have hrow : row 118 3 V (q.x.row.length + 1) (q.chs.flatMap chv ++ [.bool c.cut, nE c.off, .slice B c.b.length cB]) = rfRow q' := by
      have e1 : q'.x.row.length = q.x.row.length + 1 := by rw [hq', hqx]; simp
      have e2 : q'.chs.flatMap chv = q.chs.flatMap chv ++ [.bool c.cut, nE c.off, .slice B c.b.length cB] := by rw [hq']; simp [chv]
      have e3 : q'.v = V := by rw [hq']
      unfold rfRow
      rw [e1, e2, e3]
    have M3 := HM2.out.drop
    rw [← hV, hsetV, hrow] at M3
    have M4 := (M3.unpick (by rw [List.length_map]; exact hnl)).away 3
    rw [← List.map_set] at M4
    have HM4 := Lib.hid (show Mem w0 (blk p 105 (rfCells R' S.room S.fl.length S.sure.length S.seen.length S.acts S.fuse S.dead) :: row 113 2 (.slice R'.fa S.fl.length R'.fc) S.fl.length (R'.fs.flatMap rfV) :: row 102 1 R'.rv S.row.length (R'.ds.flatMap dsV) :: tog (R'.fs.map rfRow) :: pool G :: cs) wc by rw [hR']; exact M4)
    have HFIT := Lib.hid hfit
    have HB := Lib.hid (ref_blown HM4.out HD.out HL.out.1 HL.out.2.1)
    have HLEN := Lib.hid hflen
    clear M3 M4 hfit hq'ok hR' hq' hsetV hrow hmod hflen hV hnl hq2 HM2 hf hq hqx hG hcB hqm hx HF HFC HQV HFA HM4 HX HFL
    go_wp2_with fail
    refine HB.out.mono ?_
    rintro en w9 ⟨rfl, M9⟩
    have e9 : (if (if 0 < S.fuse then decide (S.fuse = 1) else S.dead) = true then 13 else 0) = er := by rw [HER.out]; rfl
    rw [e9]
    have HM9 := Lib.hid M9
    clear M9 HB e9
    go_wp2_with fail
    go_ret
    refine ⟨R', rfl, HFIT.out, ?_⟩
    have h9 := HM9.out
    rw [← HLEN.out] at h9
    exact h9
end Go.Proofs.Ythphonkiolmkiaa
/- Layer 14, the reference walked: how much is used. -/
set_option linter.unusedVariables false
set_option linter.unusedSimpArgs false
namespace Go.Proofs.Ythphonkiolmkiaa
open Go.RowKit
set_option maxRecDepth 100000
set_option maxHeartbeats 8000000

theorem usedOf_step (fl : List Fl) {D : Dir} {j : Nat} {s : ByteArray} {n : Nat} (h : D[j]? = some (s, n)) : usedOf fl (D.take (j + 1)) = usedOf fl (D.take j) + (flAt fl n).now.length := by
  unfold usedOf
  rw [List.take_add_one, h]
  simp
theorem usedOf_take_le (fl : List Fl) (D : Dir) (j : Nat) : usedOf fl (D.take j) ≤ usedOf fl D := by
  have h : usedOf fl D = usedOf fl (D.take j) + usedOf fl (D.drop j) := by
    unfold usedOf
    rw [← List.sum_append_nat, ← List.map_append, List.take_append_drop]
  omega
theorem ref_Used {p : Nat} {R : RfR} {S : Fs} {G : Facts} {w0 w : World} {cs : List Chunk} (h : Mem w0 (rfL p R S ++ pool G :: cs) w) (hf : RfFit R S G) (ho : FsOk S) (ha : S.acts < 1000000000) :
    Calls Try.prog 72 #[pE p] w (fun en w' => en = .returned (nE (fsUsed S)) ∧ Mem w0 (rfL p R S ++ pool G :: cs) w') := by
  have HM := Lib.hid h
  have HF := Lib.hid (And.intro hf ho)
  have hsl := ho.seen.len
  cases hd : S.dead
  case true =>
    have hu : fsUsed S = 0 := by unfold fsUsed; rw [hd]; rfl
    have c4 : w.cell? ⟨p, 4, none⟩ = some (.slice R.na S.seen.length R.nc) := (h.ob 0 rfl).cell 4 rfl
    have c7 : w.cell? ⟨p, 7, none⟩ = some (.bool S.dead) := (h.ob 0 rfl).cell 7 rfl
    rw [hu]
    rw [hd] at c7
    clear h hf ho ha hu hd
    go_enter Try.func72, Try.ntmps72
    go_wp2_with fail
    go_loopw [3, 4] (fun v3 v4 wr => v3 = .int .i64 0 ∧ v4 = .int .i64 0 ∧ wr = w) (fun _ _ _ => 0)
    case atStart => exact ⟨rfl, rfl, rfl⟩
    case round =>
      obtain ⟨rfl, rfl, rfl⟩ := hrel
      by_cases hl : S.seen.length = 0
      · have i1 : ¬ (0 : Int) < (S.seen.length : Int) := by omega
        clear hl
        go_wp2_with fail
        go_ret
        exact ⟨rfl, HM.out⟩
      · have i1 : (0 : Int) < (S.seen.length : Int) := by omega
        go_wp2_with fail
        go_ret
        exact ⟨rfl, HM.out⟩
  case false =>
    have hu : fsUsed S = usedOf S.fl S.seen := by unfold fsUsed; rw [hd]; rfl
    rw [hu]
    have HU := Lib.hid (used_le ho.files ho.seen)
    have HD := Lib.hid hd
    have HA := Lib.hid ha
    clear h hf ho ha hu hd
    go_enter Try.func72, Try.ntmps72
    go_wp2_with fail
    go_loopw [3, 4] (fun v3 v4 wr => ∃ j : Nat, v4 = .int .i64 j ∧ j ≤ S.seen.length ∧ v3 = nE (usedOf S.fl (S.seen.take j)) ∧ Hid (Mem w0 (rfL p R S ++ pool G :: cs) wr)) (fun _ v4 _ => S.seen.length - (intOf v4).toNat)
    case atStart => exact ⟨0, rfl, Nat.zero_le _, rfl, HM.out⟩
    case round =>
      obtain ⟨j, rfl, hj, rfl, HS⟩ := hrel
      clear HM
      have c4 : wr.cell? ⟨p, 4, none⟩ = some (.slice R.na S.seen.length R.nc) := (HS.out.ob 0 rfl).cell 4 rfl
      have c7 : wr.cell? ⟨p, 7, none⟩ = some (.bool S.dead) := (HS.out.ob 0 rfl).cell 7 rfl
      rw [HD.out] at c7
      have HN := Lib.hid (usedOf_take_le S.fl S.seen j)
      by_cases hlt : j < S.seen.length
      case pos =>
        obtain ⟨⟨s, n⟩, hi⟩ : ∃ q, S.seen[j]? = some q := ⟨_, List.getElem?_eq_getElem hlt⟩
        have hm := mGet_at HF.out.2.seen.ok.nd hi
        obtain ⟨hn1, x, hx, hxo, hxa⟩ := HF.out.2.file hm
        have hst := usedOf_step S.fl hi
        rw [hxa] at hst
        obtain ⟨q, hq, hqx⟩ := HF.out.1.at hx
        obtain ⟨b, o, hfa, _⟩ := rf_cells HS.out hq
        obtain ⟨bb, o2, hna, hcell⟩ := Rd.rec (f := entV) (k := 2) (fun _ => rfl) (HS.out.rd 4 rfl HF.out.1.seen) hi (by omega)
        have k1 : wr.cell? ⟨bb, o2 + j * 2 + 1, none⟩ = some (nE (n - 1)) := hcell 1 _ rfl
        have c1 : wr.cell? ⟨p, 1, none⟩ = some (.slice R.fa S.fl.length R.fc) := (HS.out.ob 0 rfl).cell 1 rfl
        rw [hfa] at c1
        rw [hna] at c4
        have HNOW := Lib.hid (ref_now HS.out.drew HF.out.1 HF.out.2 HA.out hx hfa)
        have hnl : n - 1 < S.fl.length := (List.getElem?_eq_some_iff.1 hx).1
        have HST := Lib.hid hst
        have HXL := Lib.hid (show x.now.length ≤ 1048576 from hxo.now)
        have i1 : (j : Int) < (S.seen.length : Int) := by omega
        have i2 : ((n - 1 : Nat) : Int) < (S.fl.length : Int) := by omega
        have HC := Lib.hid (fun (v : World) (m : Mem w0 (rfL p R S ++ pool G :: cs) v) => show v.cell? ⟨p, 1, none⟩ = some (.slice (some ⟨b, o, none⟩) S.fl.length R.fc) ∧ v.cell? ⟨p, 4, none⟩ = some (.slice (some ⟨bb, o2, none⟩) S.seen.length R.nc) ∧ v.cell? ⟨bb, o2 + j * 2 + 1, none⟩ = some (nE (n - 1)) from by
          refine ⟨by rw [← hfa]; exact (m.ob 0 rfl).cell 1 rfl, by rw [← hna]; exact (m.ob 0 rfl).cell 4 rfl, ?_⟩
          obtain ⟨b', o', e, hc⟩ := Rd.rec (f := entV) (k := 2) (fun _ => rfl) (m.rd 4 rfl HF.out.1.seen) hi (by omega)
          rw [hna] at e
          cases e
          exact hc 1 _ rfl)
        generalize n - 1 = m at k1 HNOW i2 hx hq HC
        obtain ⟨u0, hu0⟩ : ∃ u0, u0 = usedOf S.fl (S.seen.take j) := ⟨_, rfl⟩
        rw [← hu0] at HST HN ⊢
        have hb1 := HXL.out
        have hb2 := HN.out
        have hb3 := HU.out
        have HW := Lib.hid (wrap_small (a := (u0 : Int) + (x.now.length : Int)) (by omega) (by simp only [M0] at hb3; omega))
        clear hb1 hb2 hb3 hu0
        clear hi hm hx hxo hxa hst hq hqx hcell hfa hna hnl hn1
        go_upto_region 5 with (fail)
        obtain ⟨ww, wx⟩ := HW.out
        go_region_held3 (fun w' => w'.cell? ⟨p, 1, none⟩ = some (.slice (some ⟨b, o, none⟩) S.fl.length R.fc) ∧ w'.cell? ⟨p, 4, none⟩ = some (.slice (some ⟨bb, o2, none⟩) S.seen.length R.nc) ∧ w'.cell? ⟨bb, o2 + j * 2 + 1, none⟩ = some (nE m))
          (first | exact ⟨c1, c4, k1⟩ | exact HC.out _ M5)
          (first | (go_at_call 91; refine HNOW.out.mono ?_; rintro en w4 ⟨A4, cc4, rfl, M4⟩; have M5 := M4.drop))
        all_goals
          go_wp2_with fail
          go_roundw
          case rel => exact ⟨j + 1, rfl, hlt, by rw [HST.out]; rfl, M5⟩
          case measure => simp [intOf]; omega
      case neg =>
        obtain rfl : j = S.seen.length := by omega
        have i1 : ¬ ((S.seen.length : Int) < (S.seen.length : Int)) := by omega
        rw [List.take_length]
        go_wp2_with fail
        go_ret
        exact ⟨rfl, HS.out⟩
end Go.Proofs.Ythphonkiolmkiaa
/- Layer 14, the reference walked: its small deeds, Remove. -/
set_option linter.unusedVariables false
set_option linter.unusedSimpArgs false
namespace Go.Proofs.Ythphonkiolmkiaa
open Go.RowKit
set_option maxRecDepth 100000
set_option maxHeartbeats 8000000

def rfC (p : Nat) (S : Fs) (G : Facts) : Chunk := exs fun R : RfR => tog (pur (RfFit R S G ∧ FsOk S) :: rfL p R S)
section
variable {w0 w : World} {cs : List Chunk} {p : Nat} {S : Fs} {G G' : Facts}
theorem Mem.rf (h : Mem w0 (rfC p S G :: cs) w) : ∃ R, RfFit R S G ∧ FsOk S ∧ Mem w0 (rfL p R S ++ cs) w := by
  obtain ⟨R, h1⟩ := h.ex
  obtain ⟨h2, h3⟩ := h1.open_.pur
  exact ⟨R, h2.1, h2.2, h3⟩
theorem Mem.unrf {R : RfR} (h : Mem w0 (rfL p R S ++ cs) w) (hf : RfFit R S G) (ho : FsOk S) : Mem w0 (rfC p S G :: cs) w :=
  Mem.unex (f := fun R : RfR => tog (Go.Proofs.Ythphonkiolmkiaa.pur (RfFit R S G ∧ FsOk S) :: rfL p R S)) R (Mem.close (l := Go.Proofs.Ythphonkiolmkiaa.pur (RfFit R S G ∧ FsOk S) :: rfL p R S) (h.unpur ⟨hf, ho⟩))
theorem Mem.rfMono (h : Mem w0 (rfC p S G :: cs) w) (k : ∀ A l, G A l → G' A l) : Mem w0 (rfC p S G' :: cs) w := by
  obtain ⟨R, hf, ho, M⟩ := h.rf
  exact M.unrf (hf.mono k) ho
end
/-- What a deed of the reference's disk leaves. -/
def RfRet (w0 : World) (p : Nat) (S : Fs) (G : Facts) (cs : List Chunk) (v : Value) (en : Ending) (w' : World) : Prop :=
  en = .returned v ∧ ∃ G' : Facts, (∀ A l, G A l → G' A l) ∧ Mem w0 (rfC p S G' :: pool G' :: cs) w'
section
variable {w0 w : World} {cs : List Chunk} {p : Nat} {S : Fs} {G : Facts}
theorem ref_Acts (h : Mem w0 (rfC p S G :: pool G :: cs) w) : Calls Try.prog 74 #[pE p] w (fun en w' => en = .returned (nE S.acts) ∧ w' = w) := by
  obtain ⟨R, hf, ho, M⟩ := h.rf
  have c5 : w.cell? ⟨p, 5, none⟩ = some (nE S.acts) := (M.ob 0 rfl).cell 5 rfl
  clear h hf ho M
  go_enter Try.func74, Try.ntmps74
  go_wp2_with fail
  go_ret
  exact ⟨rfl, rfl⟩
theorem ref_Dead (h : Mem w0 (rfC p S G :: pool G :: cs) w) : Calls Try.prog 75 #[pE p] w (fun en w' => en = .returned (.bool S.dead) ∧ w' = w) := by
  obtain ⟨R, hf, ho, M⟩ := h.rf
  have c7 : w.cell? ⟨p, 7, none⟩ = some (.bool S.dead) := (M.ob 0 rfl).cell 7 rfl
  clear h hf ho M
  go_enter Try.func75, Try.ntmps75
  go_wp2_with fail
  go_ret
  exact ⟨rfl, rfl⟩
theorem ref_Room (h : Mem w0 (rfC p S G :: pool G :: cs) w) : Calls Try.prog 73 #[pE p] w (fun en w' => en = .returned (nE (fsRoom S)) ∧ w' = w) := by
  obtain ⟨R, hf, ho, M⟩ := h.rf
  have c7 : w.cell? ⟨p, 7, none⟩ = some (.bool S.dead) := (M.ob 0 rfl).cell 7 rfl
  have c0 : w.cell? ⟨p, 0, none⟩ = some (nE S.room) := (M.ob 0 rfl).cell 0 rfl
  obtain ⟨r, hr⟩ : ∃ r, r = fsRoom S := ⟨_, rfl⟩
  rw [← hr]
  have HR := Lib.hid hr
  clear h hf ho M hr
  go_enter Try.func73, Try.ntmps73
  cases hd : S.dead
  case true =>
    have e : r = 0 := by rw [HR.out]; unfold fsRoom; rw [hd]; rfl
    rw [hd] at c7
    subst e
    clear HR hd
    go_wp2_with fail
    go_ret
    exact ⟨rfl, rfl⟩
  case false =>
    have e : r = S.room := by rw [HR.out]; unfold fsRoom; rw [hd]; rfl
    rw [hd] at c7
    subst e
    clear HR hd
    go_wp2_with fail
    go_ret
    exact ⟨rfl, rfl⟩
theorem ref_Arm (n : Int) (h : Mem w0 (rfC p S G :: pool G :: cs) w) (hn : n < 9223372036854775808) : Calls Try.prog 70 #[pE p, .int .i64 n] w (RfRet w0 p (fsArm S n).1 G cs (nE (fsArm S n).2)) := by
  obtain ⟨R, hf, ho, M⟩ := h.rf
  have c7 : w.cell? ⟨p, 7, none⟩ = some (.bool S.dead) := (M.ob 0 rfl).cell 7 rfl
  have c6 : w.cell? ⟨p, 6, none⟩ = some (nE S.fuse) := (M.ob 0 rfl).cell 6 rfl
  have f6 := (M.ob 0 rfl).free 6
  have HM := Lib.hid M
  have HF := Lib.hid (And.intro hf (And.intro ho hn))
  have HH := Lib.hid h
  clear h hf ho hn M
  cases hd : S.dead
  case true =>
    have e : fsArm S n = (S, 13) := by unfold fsArm; rw [hd]; rfl
    rw [e]
    rw [hd] at c7
    clear hd e
    go_enter Try.func70, Try.ntmps70
    go_wp2_with fail
    go_ret
    exact ⟨rfl, G, fun _ _ h => h, HH.out⟩
  case false =>
    rw [hd] at c7
    by_cases h1 : n < 0
    · have e : fsArm S n = (S, 2) := by unfold fsArm; rw [hd, if_neg (by simp), if_pos h1]
      rw [e]
      clear hd e
      go_enter Try.func70, Try.ntmps70
      go_wp2_with fail
      go_ret
      exact ⟨rfl, G, fun _ _ h => h, HH.out⟩
    · have e : fsArm S n = ({ S with fuse := n.toNat }, 0) := by unfold fsArm; rw [hd, if_neg (by simp), if_neg h1]
      rw [e]
      have HE := Lib.hid h1
      clear hd e
      go_enter Try.func70, Try.ntmps70
      go_wp2_with fail
      go_ret
      refine ⟨rfl, G, fun _ _ h => h, ?_⟩
      obtain ⟨hf, ho, hn⟩ := HF.out
      have h2 := HE.out
      have M1 := HM.out.put 0 rfl 6 (.int .i64 n)
      have e3 : n = (n.toNat : Int) := by omega
      refine Mem.unrf (R := R) (S := { S with fuse := n.toNat }) ?_ ⟨hf.sure, hf.sc, hf.seen, hf.nc, hf.files, hf.fs, hf.dirs, hf.ds⟩ ⟨ho.room, ho.files, ho.sure, ho.moves, ho.rowl, ho.frow, ho.flen, by show n.toNat < _; omega⟩
      have e4 : (nE n.toNat : Value) = .int .i64 n := by show Value.int .i64 (n.toNat : Int) = _; rw [← e3]
      show Mem w0 (blk p 105 (#[nE S.room, .slice R.fa S.fl.length R.fc, .slice R.sa S.sure.length R.sc, R.rv, .slice R.na S.seen.length R.nc, nE S.acts, nE n.toNat, .bool S.dead]) :: _) _
      rw [e4]
      exact M1
theorem ref_Remove (s : ByteArray) (h : Mem w0 (rfC p S G :: pool G :: cs) w) (ha : S.acts < 1000000000) : Calls Try.prog 67 #[pE p, sE s] w (RfRet w0 p (fsRemove S s).1 G cs (nE (fsRemove S s).2)) := by
  obtain ⟨R, hf, ho, M⟩ := h.rf
  have HGET := Lib.hid (ref_get s M hf ho)
  have HM := Lib.hid M
  have HF := Lib.hid (And.intro hf (And.intro ho ha))
  have HH := Lib.hid h
  have c4 : w.cell? ⟨p, 4, none⟩ = some (.slice R.na S.seen.length R.nc) := (M.ob 0 rfl).cell 4 rfl
  have HC4 := Lib.hid c4
  by_cases he : getE S s = 0
  · have hd : S.dead = false := by
      cases hd : S.dead
      · rfl
      · unfold getE at he; rw [hd] at he; simp at he
    have e : fsRemove S s = endE (fails (turn S ⟨2, s, .empty, 0⟩)) := by unfold fsRemove; rw [if_neg (by simp [he])]
    have hdir : dirDo S.seen ⟨2, s, .empty, 0⟩ = mDel S.seen s := by unfold dirDo; simp
    rw [e]
    rw [if_pos he, he] at HGET
    have HD := Lib.hid (And.intro hd hdir)
    clear h hf ho ha M he hd e hdir
    obtain ⟨er, her⟩ : ∃ er, er = (endE (fails (turn S ⟨2, s, .empty, 0⟩))).2 := ⟨_, rfl⟩
    rw [← her]
    have HER := Lib.hid her
    clear her
    go_enter Try.func67, Try.ntmps67
    go_wp2_with fail
    refine HGET.out.mono ?_
    rintro en w1 ⟨rfl, rfl⟩
    clear HGET
    go_wp2_with fail
    refine (ref_without R.na S.seen R.nc s HM.out (fun v m => m.rd 4 rfl HF.out.1.seen) (by have := HF.out.2.1.seen.len; omega)).mono ?_
    rintro en w2 ⟨A2, c2, rfl, M2⟩
    have hc2 : (mDel S.seen s).length ≤ c2 := by obtain ⟨_, _, e, h⟩ := (M2.app 0 rfl).slice; cases e; exact h
    have M3 := M2.sinkAt 0 4 rfl rfl
    have HT := Lib.hid (ref_turn (p := p) (R := R) (S := S) (A := A2) (c := c2) ⟨2, s, .empty, 0⟩ (cs := cs) M3 (HF.out.1.mono (fun _ _ h => .inl h)) (movesOk_all HF.out.2.1.moves) HD.out.1 HF.out.2.2 HF.out.2.1.fuse HF.out.2.1.rowl (by rw [HD.out.2]; exact .inr ⟨rfl, rfl⟩) (by rw [HD.out.2]; exact hc2))
    rw [HD.out.2, ← HER.out] at HT
    clear M2 hc2 M3 c4
    go_wp2_with fail
    refine HT.out.mono ?_
    rintro en w4 ⟨R', rfl, hf', M4⟩
    have H4 := Lib.hid (And.intro hf' M4)
    clear hf' M4 HT
    go_wp2_with fail
    go_ret
    exact ⟨rfl, _, fun _ _ h => .inl h, H4.out.2.unrf H4.out.1 (turn_ok HF.out.2.1 (.inr (.inr rfl)))⟩
  · have e : fsRemove S s = (S, getE S s) := by unfold fsRemove; rw [if_pos he]
    rw [e]
    have i1 : ((getE S s : Int) != 0) = true := by simp; exact he
    rw [if_neg he] at HGET
    clear h hf ho ha M he e
    generalize getE S s = q at HGET i1 ⊢
    go_enter Try.func67, Try.ntmps67
    go_wp2_with fail
    refine HGET.out.mono ?_
    rintro en w1 ⟨rfl, rfl⟩
    clear HGET
    go_wp2_with fail
    all_goals
      go_ret
      exact ⟨rfl, G, fun _ _ h => h, HH.out⟩
end
end Go.Proofs.Ythphonkiolmkiaa
/- Layer 14, the reference walked: Rename, SyncDir. -/
set_option linter.unusedVariables false
set_option linter.unusedSimpArgs false
namespace Go.Proofs.Ythphonkiolmkiaa
open Go.RowKit
set_option maxRecDepth 100000
set_option maxHeartbeats 8000000

theorem dPut_del (t : ByteArray) (n : Nat) : ∀ (E : Dir), DirOk E → dPut (mDel E t) t n = dPut E t n
  | [], _ => rfl
  | p :: E, h => by
    have hp := (List.pairwise_cons.1 h).1
    have hE : DirOk E := (List.pairwise_cons.1 h).2
    by_cases h1 : p.1 = t
    · have hno : ∀ q ∈ E, q.1 ≠ t := fun q hq e => by
        have := hp q hq
        rw [h1, e, sLt_irrefl] at this
        cases this
      have e1 : mDel (p :: E) t = E := by
        have h2 : mDel (p :: E) t = mDel E t := by unfold mDel; simp [h1]
        rw [h2, mDel_none hno]
      rw [e1]
      show dPut E t n = if p.1 = t then (t, n) :: E else _
      rw [if_pos h1]
      cases E with
      | nil => rfl
      | cons q E =>
        have h3 := hp q (by simp)
        rw [h1] at h3
        show (if q.1 = t then _ else if sLt t q.1 then _ else _) = _
        rw [if_neg (hno q (by simp)), if_pos h3]
    · have e1 : mDel (p :: E) t = p :: mDel E t := by unfold mDel; simp [h1]
      rw [e1]
      show (if p.1 = t then _ else if sLt t p.1 then _ else _) = (if p.1 = t then _ else if sLt t p.1 then _ else _)
      rw [if_neg h1, if_neg h1]
      by_cases h2 : sLt t p.1 = true
      · rw [if_pos h2, if_pos h2]
        have hno : ∀ q ∈ E, q.1 ≠ t := fun q hq e => by
          have h4 := sLt_trans h2 (hp q hq)
          rw [e, sLt_irrefl] at h4
          cases h4
        rw [mDel_none hno]
      · rw [if_neg h2, if_neg h2, dPut_del t n E hE]
theorem getE_dead {S : Fs} {s : ByteArray} (h : getE S s = 0) : S.dead = false ∧ ∃ n, mGet S.seen s = some n ∧ getN S s = n := by
  unfold getE at h
  cases hd : S.dead
  · rw [hd] at h
    cases hm : mGet S.seen s with
    | none => rw [hm] at h; simp at h
    | some n => exact ⟨rfl, n, rfl, by unfold getN; rw [hm]; rfl⟩
  · rw [hd] at h; simp at h
section
variable {w0 w : World} {cs : List Chunk} {p : Nat} {S : Fs} {G : Facts}
theorem ref_Rename (s t : ByteArray) (h : Mem w0 (rfC p S G :: pool G :: cs) w) (ha : S.acts < 1000000000) (ht : t.size ≤ 281474976710656) : Calls Try.prog 66 #[pE p, sE s, sE t] w (RfRet w0 p (fsRename S s t).1 G cs (nE (fsRename S s t).2)) := by
  obtain ⟨R, hf, ho, M⟩ := h.rf
  have HGET := Lib.hid (ref_get s M hf ho)
  have HM := Lib.hid M
  have HF := Lib.hid (And.intro hf (And.intro ho ha))
  have HH := Lib.hid h
  have HT := Lib.hid ht
  have c4 : w.cell? ⟨p, 4, none⟩ = some (.slice R.na S.seen.length R.nc) := (M.ob 0 rfl).cell 4 rfl
  by_cases he : getE S s = 0
  · obtain ⟨hd, n, hm, hgn⟩ := getE_dead he
    rw [if_pos he, he, hgn] at HGET
    cases hnm : isNm t
    case false =>
      have e : fsRename S s t = (S, 2) := by unfold fsRename; rw [if_neg (by simp [he]), if_pos hnm]
      rw [e]
      have HNM := Lib.hid hnm
      clear h hf ho ha M he e hd hm hgn hnm ht
      go_enter Try.func66, Try.ntmps66
      go_wp2_with fail
      refine HGET.out.mono ?_
      rintro en w1 ⟨rfl, rfl⟩
      clear HGET
      go_wp2_with fail
      refine (ref_name t w1 HT.out).mono ?_
      rintro en w2 ⟨rfl, rfl⟩
      rw [HNM.out]
      go_wp2_with fail
      go_ret
      exact ⟨rfl, G, fun _ _ h => h, HH.out⟩
    case true =>
      have e : fsRename S s t = endE (fails (turn S ⟨1, s, t, 0⟩)) := by unfold fsRename; rw [if_neg (by simp [he]), if_neg (by simp [hnm])]
      have hdir : dirDo S.seen ⟨1, s, t, 0⟩ = dPut (mDel (mDel S.seen s) t) t n := by
        rw [dPut_del t n _ (ho.seen.ok.del s)]
        unfold dirDo; simp [hm]
      have hl1 : (mDel S.seen s).length ≤ 64 := by
        have h1 : (mDel S.seen s).length ≤ S.seen.length := List.length_filter_le _ _
        have := ho.seen.len
        omega
      have hl2 : (mDel (mDel S.seen s) t).length ≤ 64 := by
        have h1 : (mDel (mDel S.seen s) t).length ≤ (mDel S.seen s).length := List.length_filter_le _ _
        omega
      have hnone : mGet (mDel (mDel S.seen s) t) t = none := mGet_none (fun q hq => (mem_mDel.1 hq).2)
      have hmv : mvOk S.fl.length S.seen ⟨1, s, t, 0⟩ := .inr (.inl ⟨rfl, n, hm⟩)
      rw [e]
      have HNM := Lib.hid hnm
      have HD := Lib.hid (And.intro hd (And.intro hdir (And.intro hl1 (And.intro hl2 (And.intro hnone hmv)))))
      clear h hf ho ha M he hd e hdir hl1 hl2 hnone hmv hnm hm hgn ht
      obtain ⟨er, her⟩ : ∃ er, er = (endE (fails (turn S ⟨1, s, t, 0⟩))).2 := ⟨_, rfl⟩
      rw [← her]
      have HER := Lib.hid her
      clear her
      go_enter Try.func66, Try.ntmps66
      go_wp2_with fail
      refine HGET.out.mono ?_
      rintro en w1 ⟨rfl, rfl⟩
      clear HGET
      go_wp2_with fail
      refine (ref_name t w1 HT.out).mono ?_
      rintro en w2 ⟨rfl, rfl⟩
      rw [HNM.out]
      go_wp2_with fail
      refine (ref_without R.na S.seen R.nc s HM.out (fun v m => m.rd 4 rfl HF.out.1.seen) (by have := HF.out.2.1.seen.len; omega)).mono ?_
      rintro en w3 ⟨A2, c2, rfl, M2⟩
      have HM2 := Lib.hid M2
      clear M2 c4
      go_wp2_with fail
      refine (ref_without A2 _ c2 t HM2.out (fun v m => (m.app 0 rfl).rd.1) (by have := HD.out.2.2.1; omega)).mono ?_
      rintro en w4 ⟨A3, c3, rfl, M3⟩
      have hc3 : (mDel (mDel S.seen s) t).length ≤ c3 := by obtain ⟨_, _, e, h⟩ := (M3.app 0 rfl).slice; cases e; exact h
      have HM3 := Lib.hid (And.intro M3 hc3)
      clear M3 HM2 hc3
      go_wp2_with fail
      refine (ref_with A3 _ c3 t n HM3.out.1 (fun v m => (m.app 0 rfl).rd.1) (by have := HD.out.2.2.2.1; omega) HM3.out.2 HD.out.2.2.2.2.1).mono ?_
      rintro en w5 ⟨A4, c4, rfl, M4⟩
      have hc4 : (dPut (mDel (mDel S.seen s) t) t n).length ≤ c4 := by obtain ⟨_, _, e, h⟩ := (M4.app 0 rfl).slice; cases e; exact h
      have M5 := ((M4.bring 1).drop.bring 1).drop.sinkAt 0 4 rfl rfl
      have HT := Lib.hid (ref_turn (p := p) (R := R) (S := S) (A := A4) (c := c4) ⟨1, s, t, 0⟩ (cs := cs) M5 (HF.out.1.mono (fun _ _ h => .inl h)) (movesOk_all HF.out.2.1.moves) HD.out.1 HF.out.2.2 HF.out.2.1.fuse HF.out.2.1.rowl (by rw [HD.out.2.1]; exact .inr ⟨rfl, rfl⟩) (by rw [HD.out.2.1]; exact hc4))
      rw [HD.out.2.1, ← HER.out] at HT
      clear M4 M5 hc4 HM3
      go_wp2_with fail
      refine HT.out.mono ?_
      rintro en w6 ⟨R', rfl, hf', M6⟩
      have H6 := Lib.hid (And.intro hf' M6)
      clear hf' M6 HT
      go_wp2_with fail
      go_ret
      exact ⟨rfl, _, fun _ _ h => .inl h, H6.out.2.unrf H6.out.1 (turn_ok HF.out.2.1 HD.out.2.2.2.2.2)⟩
  · have e : fsRename S s t = (S, getE S s) := by unfold fsRename; rw [if_pos he]
    rw [e]
    have i1 : ((getE S s : Int) != 0) = true := by simp; exact he
    rw [if_neg he] at HGET
    clear h hf ho ha M he e ht
    generalize getE S s = q at HGET i1 ⊢
    go_enter Try.func66, Try.ntmps66
    go_wp2_with fail
    refine HGET.out.mono ?_
    rintro en w1 ⟨rfl, rfl⟩
    clear HGET
    go_wp2_with fail
    go_ret
    exact ⟨rfl, G, fun _ _ h => h, HH.out⟩
end
end Go.Proofs.Ythphonkiolmkiaa
/- Layer 14, the reference walked: SyncDir, Size, Cut. -/
set_option linter.unusedVariables false
set_option linter.unusedSimpArgs false
namespace Go.Proofs.Ythphonkiolmkiaa
open Go.RowKit
set_option maxRecDepth 100000
set_option maxHeartbeats 8000000

section
variable {w0 w : World} {cs : List Chunk} {p : Nat} {S : Fs} {G : Facts}
theorem ref_SyncDir (h : Mem w0 (rfC p S G :: pool G :: cs) w) (ha : S.acts < 1000000000) : Calls Try.prog 69 #[pE p] w (RfRet w0 p (fsSyncDir S).1 G cs (nE (fsSyncDir S).2)) := by
  obtain ⟨R, hf, ho, M⟩ := h.rf
  have HM := Lib.hid M
  have HF := Lib.hid (And.intro hf (And.intro ho ha))
  have HH := Lib.hid h
  have c7 : w.cell? ⟨p, 7, none⟩ = some (.bool S.dead) := (M.ob 0 rfl).cell 7 rfl
  cases hd : S.dead
  case true =>
    have e : fsSyncDir S = (S, 13) := by unfold fsSyncDir; rw [if_pos hd]
    rw [e]
    rw [hd] at c7
    clear h hf ho ha M e hd
    go_enter Try.func69, Try.ntmps69
    go_wp2_with fail
    go_ret
    exact ⟨rfl, G, fun _ _ h => h, HH.out⟩
  case false =>
    have HB := ref_blown M hd ha ho.fuse
    have e0 : (if 0 < S.fuse then decide (S.fuse = 1) else S.dead) = (fails S).dead := rfl
    rw [e0] at HB
    have HBH := Lib.hid HB
    have HD := Lib.hid hd
    rw [hd] at c7
    cases hx : (fails S).dead
    case true =>
      have e : fsSyncDir S = (fails S, 13) := by unfold fsSyncDir; rw [if_neg (by simp [hd]), if_pos hx]
      rw [e]
      rw [hx, if_pos rfl] at HBH
      have HX := Lib.hid hx
      clear h hf ho ha M e hd HB e0 hx
      go_enter Try.func69, Try.ntmps69
      go_wp2_with fail
      refine HBH.out.mono ?_
      rintro en w1 ⟨rfl, M1⟩
      have HM1 := Lib.hid M1
      clear M1 HBH
      go_wp2_with fail
      go_ret
      refine ⟨rfl, G, fun _ _ h => h, ?_⟩
      have M2 := HM1.out
      rw [← HX.out] at M2
      obtain ⟨hf, ho, ha⟩ := HF.out
      exact Mem.unrf (R := R) (S := fails S) M2 ⟨hf.sure, hf.sc, hf.seen, hf.nc, hf.files, hf.fs, hf.dirs, hf.ds⟩ (fails_ok ho)
    case false =>
      have e : fsSyncDir S = ({ fails S with sure := S.seen, row := [] }, 0) := by unfold fsSyncDir; rw [if_neg (by simp [hd]), if_neg (by simp [hx])]
      rw [e]
      rw [hx, if_neg (by simp)] at HBH
      have HX := Lib.hid hx
      clear h hf ho ha M e hd HB e0 hx
      go_enter Try.func69, Try.ntmps69
      go_wp2_with fail
      refine HBH.out.mono ?_
      rintro en w1 ⟨rfl, M1⟩
      have HM1 := Lib.hid M1
      have c4 : w1.cell? ⟨p, 4, none⟩ = some (.slice R.na S.seen.length R.nc) := (M1.ob 0 rfl).cell 4 rfl
      have c2 : w1.cell? ⟨p, 2, none⟩ = some (.slice R.sa S.sure.length R.sc) := (M1.ob 0 rfl).cell 2 rfl
      have c3 : w1.cell? ⟨p, 3, none⟩ = some R.rv := (M1.ob 0 rfl).cell 3 rfl
      have f2 := (M1.ob 0 rfl).free 2
      have f3 := (M1.ob 0 rfl).free 3
      clear M1 HBH
      go_wp2_with fail
      go_ret
      refine ⟨rfl, G, fun _ _ h => h, ?_⟩
      have M2 := (HM1.out.put 0 rfl 2 (.slice R.na S.seen.length R.nc)).put 0 rfl 3 (.slice none 0 0)
      have M3 := (((M2.bring 2).drop).nilRow 102 1).away 2
      obtain ⟨hf, ho, ha⟩ := HF.out
      have hx := HX.out
      refine Mem.unrf (R := {R with sa := R.na, sc := R.nc, rv := .slice none 0 0, ds := []}) (S := { fails S with sure := S.seen, row := [] }) ?_ ⟨hf.seen, hf.nc, hf.seen, hf.nc, hf.files, hf.fs, rfl, fun d hd => by cases hd⟩ (syncDir_ok ho)
      show Mem w0 (blk p 105 (rfCells {R with sa := R.na, sc := R.nc, rv := .slice none 0 0, ds := []} S.room S.fl.length S.seen.length S.seen.length (S.acts + 1) (S.fuse - 1) (fails S).dead) :: _) _
      rw [hx]
      exact M3
theorem ref_Size (s : ByteArray) (h : Mem w0 (rfC p S G :: pool G :: cs) w) (ha : S.acts < 1000000000) : Calls Try.prog 77 #[pE p, sE s] w (fun en w' => en = .returned (.tuple #[nE (fsSize S s).1, nE (fsSize S s).2]) ∧ Mem w0 (rfC p S G :: pool G :: cs) w') := by
  obtain ⟨R, hf, ho, M⟩ := h.rf
  have HGET := Lib.hid (ref_get s M hf ho)
  have HM := Lib.hid M
  have HF := Lib.hid (And.intro hf (And.intro ho ha))
  have HH := Lib.hid h
  by_cases he : getE S s = 0
  · obtain ⟨hd, n, hm, hgn⟩ := getE_dead he
    rw [if_pos he, he, hgn] at HGET
    obtain ⟨hn1, x, hx, hxo, hxa⟩ := ho.file hm
    have e : fsSize S s = (x.now.length, 0) := by unfold fsSize; rw [if_neg (by simp [he]), hgn, hxa]
    rw [e]
    obtain ⟨q, hq, hqx⟩ := hf.at hx
    obtain ⟨b, o, hfa, _⟩ := rf_cells M hq
    have c1 : w.cell? ⟨p, 1, none⟩ = some (.slice R.fa S.fl.length R.fc) := (M.ob 0 rfl).cell 1 rfl
    rw [hfa] at c1
    have HNOW := Lib.hid (ref_now M hf ho ha hx hfa)
    have hnl : n - 1 < S.fl.length := (List.getElem?_eq_some_iff.1 hx).1
    have i2 : ((n - 1 : Nat) : Int) < (S.fl.length : Int) := by omega
    have HXL := Lib.hid (show x.now.length ≤ 1048576 from hxo.now)
    generalize n - 1 = m at HGET HNOW i2
    clear h hf ho ha M he hd e hm hgn hx hxo hxa hq hqx hfa hnl hn1
    go_enter Try.func77, Try.ntmps77
    go_wp2_with fail
    refine HGET.out.mono ?_
    rintro en w1 ⟨rfl, rfl⟩
    clear HGET
    go_wp2_with fail
    refine HNOW.out.mono ?_
    rintro en w2 ⟨A2, c2, rfl, M2⟩
    have HM2 := Lib.hid M2.drop
    clear M2 HNOW
    go_wp2_with fail
    go_ret2
    exact ⟨rfl, HM2.out.unrf HF.out.1 HF.out.2.1⟩
  · have e : fsSize S s = (0, getE S s) := by unfold fsSize; rw [if_pos he]
    rw [e]
    have i1 : ((getE S s : Int) != 0) = true := by simp; exact he
    rw [if_neg he] at HGET
    clear h hf ho ha M he e
    generalize getE S s = q at HGET i1 ⊢
    go_enter Try.func77, Try.ntmps77
    go_wp2_with fail
    refine HGET.out.mono ?_
    rintro en w1 ⟨rfl, rfl⟩
    clear HGET
    go_wp2_with fail
    go_ret2
    exact ⟨rfl, HH.out⟩
end
end Go.Proofs.Ythphonkiolmkiaa
/- Layer 14, the reference walked: Cut. -/
set_option linter.unusedVariables false
set_option linter.unusedSimpArgs false
namespace Go.Proofs.Ythphonkiolmkiaa
open Go.RowKit
set_option maxRecDepth 100000
set_option maxHeartbeats 8000000

section
variable {w0 w : World} {cs : List Chunk} {p : Nat} {S : Fs} {G : Facts}
theorem Mem.noteNil (h : Mem w0 (rfC p S G :: pool G :: cs) w) : Mem w0 (rfC p S (fun A l => G A l ∨ (A = none ∧ l = [])) :: pool (fun A l => G A l ∨ (A = none ∧ l = [])) :: cs) w := by
  have h1 := (h.nilRow 5 1).sinkAt 0 1 rfl rfl
  exact h1.rfMono (fun _ _ h => .inl h)
theorem ref_Cut (s : ByteArray) (k : Int) (h : Mem w0 (rfC p S G :: pool G :: cs) w) (ha : S.acts < 1000000000) : Calls Try.prog 65 #[pE p, sE s, .int .i64 k] w (RfRet w0 p (fsCut S s k).1 G cs (nE (fsCut S s k).2)) := by
  have HH := Lib.hid h
  have h0 := h.noteNil
  obtain ⟨G', hG'⟩ : ∃ G' : Facts, G' = (fun A l => G A l ∨ (A = none ∧ l = [])) := ⟨_, rfl⟩
  rw [← hG'] at h0
  have hsub : ∀ A l, G A l → G' A l := by rw [hG']; exact fun _ _ h => .inl h
  have hnil : G' none (([] : List UInt8).map bv) := by rw [hG']; exact .inr ⟨rfl, rfl⟩
  clear hG'
  obtain ⟨R, hf, ho, M⟩ := h0.rf
  have HGET := Lib.hid (ref_get s M hf ho)
  have HM := Lib.hid M
  have HF := Lib.hid (And.intro hf (And.intro ho ha))
  have HG := Lib.hid (And.intro hsub hnil)
  by_cases he : getE S s = 0
  · obtain ⟨hd, n, hm, hgn⟩ := getE_dead he
    rw [if_pos he, he, hgn] at HGET
    obtain ⟨hn1, x, hx, hxo, hxa⟩ := ho.file hm
    obtain ⟨q, hq, hqx⟩ := hf.at hx
    obtain ⟨b, o, hfa, _⟩ := rf_cells M hq
    have c1 : w.cell? ⟨p, 1, none⟩ = some (.slice R.fa S.fl.length R.fc) := (M.ob 0 rfl).cell 1 rfl
    rw [hfa] at c1
    have HNOW := Lib.hid (ref_now M hf ho ha hx hfa)
    have hnl : n - 1 < S.fl.length := (List.getElem?_eq_some_iff.1 hx).1
    have i2 : ((n - 1 : Nat) : Int) < (S.fl.length : Int) := by omega
    have HXL := Lib.hid (show x.now.length ≤ 1048576 from hxo.now)
    have HX := Lib.hid (And.intro hx (And.intro hd hxo))
    by_cases hk : k < 0 ∨ (x.now.length : Int) < k
    · have e : fsCut S s k = (S, 2) := by unfold fsCut; rw [if_neg (by simp [he]), hgn, hxa, if_pos hk]
      rw [e]
      generalize n - 1 = m at HGET HNOW i2
      clear h h0 hf ho ha M he hd e hm hgn hx hxo hxa hq hqx hfa hnl hn1 hsub hnil HX
      go_enter Try.func65, Try.ntmps65
      go_wp2_with fail
      refine HGET.out.mono ?_
      rintro en w1 ⟨rfl, rfl⟩
      clear HGET
      by_cases hk0 : k < 0
      · clear hk
        go_wp2_with fail
        go_ret
        exact ⟨rfl, G, fun _ _ h => h, HH.out⟩
      · have hk2 : (x.now.length : Int) < k := by omega
        clear hk
        go_wp2_with fail
        refine HNOW.out.mono ?_
        rintro en w2 ⟨A2, c2, rfl, M2⟩
        have HM2 := Lib.hid M2.drop
        clear M2 HNOW
        go_wp2_with fail
        go_ret
        exact ⟨rfl, G', HG.out.1, HM2.out.unrf HF.out.1 HF.out.2.1⟩
    · obtain ⟨j, rfl⟩ : ∃ j : Nat, k = (j : Int) := ⟨k.toNat, by omega⟩
      have hj : j ≤ x.now.length := by omega
      have e : fsCut S s (j : Int) = endE (fails (change S (n - 1) ⟨true, j, []⟩)) := by unfold fsCut; rw [if_neg (by simp [he]), hgn, hxa, if_neg hk]; rfl
      have hch : ChOk x.now ⟨true, j, []⟩ := ⟨hj, by have := hxo.now; simp; omega, fun _ => rfl⟩
      have hok : FsOk (fails (change S (n - 1) ⟨true, j, []⟩)) := change_ok ho (fun y hy => by rw [hx] at hy; cases hy; exact hch)
      have HADD := Lib.hid (fun (v : World) (m : Mem w0 (rfL p R S ++ pool G' :: cs) v) => ref_add (B := none) (cB := 0) ⟨true, j, []⟩ m hf ho hx hd ha hnil (Nat.le_refl _))
      rw [e]
      obtain ⟨er, her⟩ : ∃ er, er = (endE (fails (change S (n - 1) ⟨true, j, []⟩))).2 := ⟨_, rfl⟩
      rw [← her] at HADD ⊢
      have HOK := Lib.hid hok
      have i3 : ¬ (j : Int) < 0 := by omega
      have i4 : ¬ (x.now.length : Int) < (j : Int) := by omega
      have hex : ∃ S', S' = fails (change S (n - 1) ⟨true, j, []⟩) := ⟨_, rfl⟩
      obtain ⟨S', hS'⟩ := hex
      have e5 : (endE (fails (change S (n - 1) ⟨true, j, []⟩))).1 = S' := by rw [hS']; rfl
      rw [← hS'] at HADD HOK
      rw [e5]
      generalize n - 1 = m at HGET HNOW i2 HADD
      clear h h0 hf ho ha M he hd e hm hgn hx hxo hxa hq hqx hfa hnl hn1 hsub hnil HX hk hch hok her hS' e5 hj
      go_enter Try.func65, Try.ntmps65
      go_wp2_with fail
      refine HGET.out.mono ?_
      rintro en w1 ⟨rfl, rfl⟩
      clear HGET
      go_wp2_with fail
      refine HNOW.out.mono ?_
      rintro en w2 ⟨A2, c2, rfl, M2⟩
      have HA2 := Lib.hid (HADD.out w2 M2.drop)
      clear M2 HNOW HADD
      go_wp2_with fail
      refine HA2.out.mono ?_
      rintro en w3 ⟨R', rfl, hf', M3⟩
      have HM3 := Lib.hid (And.intro hf' M3)
      clear hf' M3 HA2
      go_wp2_with fail
      go_ret
      exact ⟨rfl, G', HG.out.1, HM3.out.2.unrf HM3.out.1 HOK.out⟩
  · have e : fsCut S s k = (S, getE S s) := by unfold fsCut; rw [if_pos he]
    rw [e]
    have i1 : ((getE S s : Int) != 0) = true := by simp; exact he
    rw [if_neg he] at HGET
    clear h hf ho ha M he e h0 hsub hnil
    generalize getE S s = q at HGET i1 ⊢
    go_enter Try.func65, Try.ntmps65
    go_wp2_with fail
    refine HGET.out.mono ?_
    rintro en w1 ⟨rfl, rfl⟩
    clear HGET
    go_wp2_with fail
    go_ret
    exact ⟨rfl, G, fun _ _ h => h, HH.out⟩
end
end Go.Proofs.Ythphonkiolmkiaa
/- Layer 14, the reference walked: Names. -/
set_option linter.unusedVariables false
set_option linter.unusedSimpArgs false
namespace Go.Proofs.Ythphonkiolmkiaa
open Go.RowKit
set_option maxRecDepth 100000
set_option maxHeartbeats 8000000

theorem dNames_step {D : Dir} {j : Nat} {s : ByteArray} {n : Nat} (h : D[j]? = some (s, n)) : (dNames (D.take (j + 1))).map sE = (dNames (D.take j)).map sE ++ [sE s] := by
  unfold dNames
  rw [List.take_add_one, h]
  simp
section
variable {w0 w : World} {cs : List Chunk} {p : Nat} {S : Fs} {G : Facts}
theorem ref_Names (h : Mem w0 (rfC p S G :: pool G :: cs) w) :
    Calls Try.prog 71 #[pE p] w (fun en w' => ∃ A c, en = .returned (.slice A (fsNames S).length c) ∧ Mem w0 (row 9 1 (.slice A (fsNames S).length c) (fsNames S).length ((fsNames S).map sE) :: rfC p S G :: pool G :: cs) w') := by
  obtain ⟨R, hf, ho, M⟩ := h.rf
  have HM := Lib.hid (M.nilRow 9 1)
  have HF := Lib.hid (And.intro hf ho)
  have HBACK : ∀ (v : World) (V : Value) (n : Nat) (xs : List Value), Mem w0 (row 9 1 V n xs :: (rfL p R S ++ pool G :: cs)) v → Mem w0 (row 9 1 V n xs :: rfC p S G :: pool G :: cs) v := fun v V n xs m =>
    ((Mem.unrf (p := p) (R := R) (S := S) (G := G) (cs := pool G :: row 9 1 V n xs :: cs) (m.away 5) hf ho).bring 2)
  have HB := Lib.hid HBACK
  have hsl := ho.seen.len
  cases hd : S.dead
  case true =>
    have hu : fsNames S = [] := by unfold fsNames; rw [if_pos hd]
    have c4 : w.cell? ⟨p, 4, none⟩ = some (.slice R.na S.seen.length R.nc) := (M.ob 0 rfl).cell 4 rfl
    have c7 : w.cell? ⟨p, 7, none⟩ = some (.bool S.dead) := (M.ob 0 rfl).cell 7 rfl
    rw [hu]
    rw [hd] at c7
    clear h hf ho hu hd M HBACK
    go_enter Try.func71, Try.ntmps71
    go_wp2_with fail
    go_loopw [3, 4] (fun v3 v4 wr => v3 = .slice none 0 0 ∧ v4 = .int .i64 0 ∧ wr = w) (fun _ _ _ => 0)
    case atStart => exact ⟨rfl, rfl, rfl⟩
    case round =>
      obtain ⟨rfl, rfl, rfl⟩ := hrel
      by_cases hl : S.seen.length = 0
      · have i1 : ¬ (0 : Int) < (S.seen.length : Int) := by omega
        clear hl
        go_wp2_with fail
        go_ret
        exact ⟨none, 0, rfl, HB.out _ _ _ _ HM.out⟩
      · have i1 : (0 : Int) < (S.seen.length : Int) := by omega
        go_wp2_with fail
        go_ret
        exact ⟨none, 0, rfl, HB.out _ _ _ _ HM.out⟩
  case false =>
    have hu : fsNames S = dNames S.seen := by unfold fsNames; rw [if_neg (by simp [hd])]
    have hnl : (dNames S.seen).length = S.seen.length := by unfold dNames; rw [List.length_map]
    rw [hu, hnl]
    have HD := Lib.hid hd
    clear h hf ho hu hd M HBACK hnl
    go_enter Try.func71, Try.ntmps71
    go_wp2_with fail
    go_loopw [3, 4] (fun v3 v4 wr => ∃ (j : Nat) (A3 : Option Addr) (c3 : Nat), v4 = .int .i64 j ∧ j ≤ S.seen.length ∧ v3 = .slice A3 j c3 ∧ Hid (Mem w0 (row 9 1 (.slice A3 j c3) j ((dNames (S.seen.take j)).map sE) :: (rfL p R S ++ pool G :: cs)) wr)) (fun _ v4 _ => S.seen.length - (intOf v4).toNat)
    case atStart => exact ⟨0, none, 0, rfl, Nat.zero_le _, rfl, HM.out⟩
    case round =>
      obtain ⟨j, A3, c3, rfl, hj, rfl, HS⟩ := hrel
      clear HM
      have c4 : wr.cell? ⟨p, 4, none⟩ = some (.slice R.na S.seen.length R.nc) := (HS.out.ob 1 rfl).cell 4 rfl
      have c7 : wr.cell? ⟨p, 7, none⟩ = some (.bool S.dead) := (HS.out.ob 1 rfl).cell 7 rfl
      rw [HD.out] at c7
      by_cases hlt : j < S.seen.length
      case pos =>
        obtain ⟨⟨s, n⟩, hi⟩ : ∃ q, S.seen[j]? = some q := ⟨_, List.getElem?_eq_getElem hlt⟩
        obtain ⟨bb, o2, hna, hcell⟩ := Rd.rec (f := entV) (k := 2) (fun _ => rfl) (HS.out.rd 5 rfl HF.out.1.seen) hi (by omega)
        have k0 : wr.cell? ⟨bb, o2 + j * 2, none⟩ = some (sE s) := hcell 0 _ rfl
        rw [hna] at c4
        have HST := Lib.hid (dNames_step hi)
        have i1 : (j : Int) < (S.seen.length : Int) := by omega
        clear hi hcell hna
        go_wp2_with (at_builtin; go_must (refine append_one rfl _ _ 46 9 (.string .empty) 1 16 rfl Try.underlying46 Try.infoString rfl (by decide) 0 (HS.out.app 0 rfl) (by rfl) (by rfl) (by rfl) (by intro u hu; simp at hu; subst hu; rfl) (by omega) (by omega) (Nat.zero_le _) ?_); intro v5 w5 hown5 hgr5 hat5; obtain ⟨A5, c5, rfl, hcc5⟩ := hown5.slice)
        go_roundw
        case rel =>
          have M5 := HS.out.growOne 0 rfl hown5 hgr5 hat5
          refine ⟨j + 1, A5, c5, rfl, hlt, rfl, ?_⟩
          rw [HST.out]
          exact M5
        case measure => simp [intOf]; omega
      case neg =>
        obtain rfl : j = S.seen.length := by omega
        have i1 : ¬ ((S.seen.length : Int) < (S.seen.length : Int)) := by omega
        rw [List.take_length] at HS
        go_wp2_with fail
        go_ret
        exact ⟨A3, c3, rfl, HB.out _ _ _ _ HS.out⟩
end
end Go.Proofs.Ythphonkiolmkiaa
/- Layer 14, the reference walked: Read. -/
set_option linter.unusedVariables false
set_option linter.unusedSimpArgs false
namespace Go.Proofs.Ythphonkiolmkiaa
open Go.RowKit
set_option maxRecDepth 100000
set_option maxHeartbeats 8000000

def RfRead (w0 : World) (p : Nat) (S : Fs) (G : Facts) (cs : List Chunk) (r : List UInt8 × Nat) (en : Ending) (w' : World) : Prop :=
  ∃ A c, en = .returned (.tuple #[.slice A r.1.length c, nE r.2]) ∧ Mem w0 (row 5 1 (.slice A r.1.length c) r.1.length (r.1.map bv) :: rfC p S G :: pool G :: cs) w'
section
variable {w0 w : World} {cs : List Chunk} {p : Nat} {S : Fs} {G : Facts}
theorem ref_Read (s : ByteArray) (k n : Int) (h : Mem w0 (rfC p S G :: pool G :: cs) w) (ha : S.acts < 1000000000) :
    Calls Try.prog 76 #[pE p, sE s, .int .i64 k, .int .i64 n] w (RfRead w0 p S G cs (fsRead S s k n)) := by
  obtain ⟨R, hf, ho, M⟩ := h.rf
  have HGET := Lib.hid (ref_get s M hf ho)
  have HM := Lib.hid M
  have HF := Lib.hid (And.intro hf (And.intro ho ha))
  have HH := Lib.hid h
  have HBACK : ∀ (v : World) (V : Value) (n : Nat) (xs : List Value), Mem w0 (row 5 1 V n xs :: (rfL p R S ++ pool G :: cs)) v → Mem w0 (row 5 1 V n xs :: rfC p S G :: pool G :: cs) v := fun v V n xs m =>
    ((Mem.unrf (p := p) (R := R) (S := S) (G := G) (cs := pool G :: row 5 1 V n xs :: cs) (m.away 5) hf ho).bring 2)
  have HB := Lib.hid HBACK
  clear HBACK
  by_cases he : getE S s = 0
  case neg =>
    have e1 : fsRead S s k n = ([], getE S s) := by unfold fsRead; rw [if_pos he]
    rw [e1]
    have i1 : ((getE S s : Int) != 0) = true := by simp; exact he
    rw [if_neg he] at HGET
    clear h hf ho ha M he e1
    generalize getE S s = q at HGET i1 ⊢
    go_enter Try.func76, Try.ntmps76
    go_wp2_with fail
    refine HGET.out.mono ?_
    rintro en w1 ⟨rfl, rfl⟩
    clear HGET
    go_wp2_with fail
    go_ret2
    exact ⟨none, 0, rfl, HH.out.nilRow _ _⟩
  case pos =>
    obtain ⟨hd, i, hm, hgn⟩ := getE_dead he
    rw [if_pos he, he, hgn] at HGET
    obtain ⟨hn1, x, hx, hxo, hxa⟩ := ho.file hm
    obtain ⟨q, hq, hqx⟩ := hf.at hx
    obtain ⟨b, o, hfa, _⟩ := rf_cells M hq
    have c1 : w.cell? ⟨p, 1, none⟩ = some (.slice R.fa S.fl.length R.fc) := (M.ob 0 rfl).cell 1 rfl
    rw [hfa] at c1
    have HNOW := Lib.hid (ref_now M hf ho ha hx hfa)
    have hnl : i - 1 < S.fl.length := (List.getElem?_eq_some_iff.1 hx).1
    have i2 : ((i - 1 : Nat) : Int) < (S.fl.length : Int) := by omega
    have hx2 : (x.now.length : Int) ≤ 1048576 := by have : x.now.length ≤ 1048576 := hxo.now; omega
    generalize i - 1 = mm0 at HGET HNOW i2
    by_cases hbad : k < 0 ∨ (x.now.length : Int) < k ∨ n < 0
    case pos =>
      have e1 : fsRead S s k n = ([], 2) := by unfold fsRead; rw [if_neg (by simp [he]), hgn, hxa, if_pos hbad]
      rw [e1]
      have hb2 : k < 0 ∨ (¬ k < 0 ∧ (x.now.length : Int) < k) ∨ (¬ k < 0 ∧ ¬ (x.now.length : Int) < k ∧ n < 0) := by omega
      clear h hf ho ha M he hd e1 hm hgn hx hxo hxa hq hqx hfa hnl hn1 hbad
      go_enter Try.func76, Try.ntmps76
      go_wp2_with fail
      refine HGET.out.mono ?_
      rintro en w1 ⟨rfl, rfl⟩
      clear HGET
      go_wp2_with fail
      refine HNOW.out.mono ?_
      rintro en w2 ⟨A2, c2, rfl, M2⟩
      have HM2 := Lib.hid M2.drop
      clear M2 HNOW
      rcases hb2 with h1 | ⟨h1, h2⟩ | ⟨h1, h2, h3⟩
      all_goals
        go_wp2_with fail
        go_ret2
        exact ⟨none, 0, rfl, (HM2.out.unrf HF.out.1 HF.out.2.1).nilRow _ _⟩
    case neg =>
      obtain ⟨q, rfl⟩ : ∃ q : Nat, k = (q : Int) := ⟨k.toNat, by omega⟩
      obtain ⟨n, rfl⟩ : ∃ m : Nat, n = (m : Int) := ⟨n.toNat, by omega⟩
      have e1 : fsRead S s q n = ((x.now.drop q).take (min n (x.now.length - q)), 0) := by
        unfold fsRead
        rw [if_neg (by simp [he]), hgn, hxa, if_neg hbad]
        show ((x.now.drop q).take n, 0) = _
        rw [← List.length_drop, ← List.take_take, List.take_length]
      rw [e1]
      obtain ⟨m, hm2⟩ : ∃ m, m = min n (x.now.length - q) := ⟨_, rfl⟩
      rw [← hm2]
      have h1 : ¬ ((q : Int) < 0) := by omega
      have h2 : ¬ ((x.now.length : Int) < (q : Int)) := by omega
      have h3 : ¬ ((n : Int) < 0) := by omega
      have hq2 : q + m ≤ x.now.length := by omega
      have mm : min (n : Int) ((x.now.length : Int) - (q : Int)) = (m : Int) := by omega
      have ww1 : IntKind.i64.wrap ((x.now.length : Int) - (q : Int)) = (x.now.length : Int) - (q : Int) := by rw [IntKind.wrap_i64]; omega
      have wx1 : wrap64 ((x.now.length : Int) - (q : Int)) = (x.now.length : Int) - (q : Int) := by unfold wrap64; omega
      have ww2 : IntKind.i64.wrap ((q : Int) + (m : Int)) = (q : Int) + (m : Int) := by rw [IntKind.wrap_i64]; omega
      have wx2 : wrap64 ((q : Int) + (m : Int)) = (q : Int) + (m : Int) := by unfold wrap64; omega
      clear h hf ho ha M he hd e1 hm hgn hx hxo hxa hq hqx hfa hnl hn1 hbad hm2
      have HW := Lib.hid (And.intro ww1 (And.intro wx1 (And.intro ww2 wx2)))
      clear ww1 wx1 ww2 wx2
      go_enter Try.func76, Try.ntmps76
      go_wp2_with fail
      refine HGET.out.mono ?_
      rintro en w1 ⟨rfl, rfl⟩
      clear HGET
      go_wp2_with fail
      refine HNOW.out.mono ?_
      rintro en w2 ⟨A2, c2, rfl, M2⟩
      have hcap : x.now.length ≤ c2 := by obtain ⟨_, _, e, h⟩ := (M2.app 0 rfl).slice; cases e; exact h
      have HM2 := Lib.hid M2
      have HRD := Lib.hid ((M2.app 0 rfl).rd.1.cut 1 q c2 m (by intro e; omega))
      have s1 := run_cut (P := Try.prog) (w := w2) 22 5 1 Try.underlying22 Try.sizeU8 A2 x.now.length c2 (some (.int .i64 (q : Int))) (some (.int .i64 ((q : Int) + (m : Int)))) none q (q + m) c2 (by have := bounds_lh (P := Try.prog) (w := w2) x.now.length c2 .i64 .i64 (q : Int) ((q : Int) + (m : Int)) (by omega) (by omega) (by omega); rw [show ((q : Int) + (m : Int)).toNat = q + m by omega] at this; simpa using this)
      have s2 := run_min_i64 (P := Try.prog) #[3, 3] 3 (n : Int) ((x.now.length : Int) - (q : Int)) w2
      rw [mm] at s2
      rw [Nat.add_sub_cancel_left] at s1
      have HL := Lib.hid (show ((x.now.drop q).take m).length = m by rw [List.length_take, List.length_drop]; omega)
      have hm2 : m ≤ 1048576 := by omega
      have HN := Lib.hid (App.nil w2 w2.heap.size 5 1)
      have HLN := Lib.hid (show (((x.now.map bv).drop (q * 1)).take m).length = m * 1 by rw [List.length_take, List.length_drop, List.length_map]; omega)
      clear M2 HNOW c1 i2
      go_upto_region 8 with (fail)
      obtain ⟨ww1, wx1, ww2, wx2⟩ := HW.out
      go_wp2_with (at_builtin; go_must (refine append_row rfl _ _ 22 5 (.int .u8 0) 1 1 rfl Try.underlying22 Try.infoU8 rfl (by decide) w2.heap.size HN.out (by rfl) (by rfl) HRD.out HLN.out (by intro u hu; exact bv_all x.now u (List.mem_of_mem_drop (List.mem_of_mem_take hu))) (by omega) (by omega) (Nat.le_refl _) ?_); intro v5 w5 hown5 hgr5 hat5; obtain ⟨A5, c5, rfl, hcc5⟩ := hown5.slice)
      go_ret2
      have M5 := ((HM2.out.newRow ((Bl.refl _).grown hgr5 (by intro q hq; cases hq)) hown5).bring 1).drop
      have e5 : [] ++ ((x.now.map bv).drop (q * 1)).take m = ((x.now.drop q).take m).map bv := by rw [Nat.mul_one, List.nil_append, List.map_take, List.map_drop]
      rw [e5, Nat.zero_add] at M5
      refine ⟨A5, c5, ?_, ?_⟩
      · rw [HL.out, ← Nat.zero_add m]; rfl
      · rw [HL.out]; exact HB.out _ _ _ _ M5
end
end Go.Proofs.Ythphonkiolmkiaa
/- Layer 14, the reference walked: New. -/
set_option linter.unusedVariables false
set_option linter.unusedSimpArgs false
namespace Go.Proofs.Ythphonkiolmkiaa
open Go.RowKit
set_option maxRecDepth 100000
set_option maxHeartbeats 8000000

theorem ref_New (room : Int) {G : Facts} {w0 w : World} {cs : List Chunk} (h : Mem w0 (pool G :: cs) w) (hG : G none []) :
    Calls Try.prog 39 #[.int .i64 room] w (fun en w' => (room < 0 ∨ 1048576 < room) ∧ en = .returned (.tuple #[.pointer none, nE 2]) ∧ Mem w0 (pool G :: cs) w' ∨ ¬ (room < 0 ∨ 1048576 < room) ∧ ∃ p, en = .returned (.tuple #[pE p, nE 0]) ∧ Mem w0 (rfC p (newFs room.toNat) G :: pool G :: cs) w') := by
  have HM := Lib.hid h
  have HG := Lib.hid hG
  clear h hG
  go_enter Try.func39, Try.ntmps39
  by_cases h1 : room < 0
  · go_wp2_with fail
    go_ret2
    exact Or.inl ⟨Or.inl h1, rfl, HM.out⟩
  · obtain ⟨k, rfl⟩ : ∃ k : Nat, room = (k : Int) := ⟨room.toNat, by omega⟩
    by_cases h2 : 1048576 < (k : Int)
    · go_wp2_with fail
      go_ret2
      exact ⟨rfl, HM.out⟩
    · have hk := Lib.hid (show k ≤ M0 by show k ≤ 1048576; omega)
      go_wp2_with fail
      go_ret2
      refine Or.inr ⟨_, rfl, ?_⟩
      have M1 := (((Mem.close (l := []) HM.out).nilRow 102 1).nilRow 113 2).alloc (.cells #[nE k, .slice none 0 0, .slice none 0 0, .slice none 0 0, .slice none 0 0, nE 0, nE 0, .bool false] 105)
      exact Mem.unrf (R := ⟨none, 0, none, 0, none, 0, .slice none 0 0, [], []⟩) (S := newFs k) M1 ⟨HG.out, Nat.le_refl _, HG.out, Nat.le_refl _, rfl, (fun q hq => by cases hq), rfl, (fun d hd => by cases hd)⟩ (newFs_ok hk.out)
end Go.Proofs.Ythphonkiolmkiaa
/- Layer 14, the reference walked: Append. -/
set_option linter.unusedVariables false
set_option linter.unusedSimpArgs false
namespace Go.Proofs.Ythphonkiolmkiaa
open Go.RowKit
set_option maxRecDepth 100000
set_option maxHeartbeats 8000000

section
variable {w0 w : World} {cs : List Chunk} {p : Nat} {S : Fs} {G : Facts}
theorem ref_Append (s : ByteArray) (b : List UInt8) (A : Option Addr) (cA : Nat) (h : Mem w0 (rfC p S G :: pool G :: cs) w) (hA : ∀ v, Mem w0 cs v → Rd v A (b.map bv)) (hb : b.length ≤ 140737488355328) (hcA : b.length ≤ cA) (ha : S.acts < 1000000000) :
    Calls Try.prog 63 #[pE p, sE s, .slice A b.length cA] w (RfRet w0 p (fsAppend S s b).1 G cs (nE (fsAppend S s b).2)) := by
  obtain ⟨R, hf, ho, M⟩ := h.rf
  have HGET := Lib.hid (ref_get s M hf ho)
  have HM := Lib.hid M
  have HF := Lib.hid (And.intro hf (And.intro ho ha))
  have HH := Lib.hid h
  have HAA := Lib.hid hA
  by_cases he : getE S s = 0
  case neg =>
    have e : fsAppend S s b = (S, getE S s) := by unfold fsAppend; rw [if_pos he]
    rw [e]
    have i1 : ((getE S s : Int) != 0) = true := by simp; exact he
    rw [if_neg he] at HGET
    clear h hf ho ha M he e hA
    generalize getE S s = q at HGET i1 ⊢
    go_enter Try.func63, Try.ntmps63
    go_wp2_with fail
    refine HGET.out.mono ?_
    rintro en w1 ⟨rfl, rfl⟩
    clear HGET
    go_wp2_with fail
    go_ret
    exact ⟨rfl, G, fun _ _ h => h, HH.out⟩
  case pos =>
    obtain ⟨hd, n, hm, hgn⟩ := getE_dead he
    rw [if_pos he, he, hgn] at HGET
    obtain ⟨hn1, x, hx, hxo, hxa⟩ := ho.file hm
    obtain ⟨q, hq, hqx⟩ := hf.at hx
    obtain ⟨bb, o, hfa, _⟩ := rf_cells M hq
    have hnl : n - 1 < S.fl.length := (List.getElem?_eq_some_iff.1 hx).1
    have i2 : ((n - 1 : Nat) : Int) < (S.fl.length : Int) := by omega
    have hu : fsUsed S = S.used := by unfold fsUsed; rw [hd]; rfl
    have HXL := Lib.hid (show x.now.length ≤ 1048576 from hxo.now)
    have HX := Lib.hid (And.intro hx (And.intro hd (And.intro hxa (And.intro hm (And.intro hgn (And.intro he hfa))))))
    have hroom : S.room ≤ 1048576 := ho.room
    have hul : S.used ≤ 67108864 := by have := used_le ho.files ho.seen; unfold M0 at this; unfold Fs.used; omega
    have HUSED := Lib.hid (ref_Used M.drew hf ho ha)
    rw [hu] at HUSED
    have HNOW := Lib.hid (fun (v : World) (m : Mem w0 (rfL p R S ++ pool G :: cs) v) => ref_now m hf ho ha hx hfa)
    have HADD := Lib.hid (fun (G' : Facts) (hs : ∀ A l, G A l → G' A l) (B : Option Addr) (cB : Nat) (hG : G' B (b.map bv)) (hcB : b.length ≤ cB) (v : World) (m : Mem w0 (rfL p R S ++ pool G' :: cs) v) => ref_add (B := B) (cB := cB) ⟨false, x.now.length, b⟩ m (hf.mono hs) ho hx hd ha hG hcB)
    have hch := append_ch (b := b) ho hm
    rw [hxa] at hch
    have HCH := Lib.hid hch
    obtain ⟨r, hr⟩ : ∃ r, r = fsAppend S s b := ⟨_, rfl⟩
    have HR := Lib.hid (show r = if 0 < b.length ∧ S.room < b.length + S.used then (S, 9) else endE (fails (change S (n - 1) ⟨false, x.now.length, b⟩)) by rw [hr]; unfold fsAppend; rw [if_neg (by simp [he]), hgn, hxa])
    rw [← hr]
    generalize hu0 : S.used = u0 at HUSED hul HCH HR
    generalize hm0 : n - 1 = m at HGET HNOW i2 HADD HR HX
    clear h hf ho ha M he hd hm hgn hx hxo hxa hq hqx hnl hn1 hA hch hr hu0 hu hm0
    have c0 : w.cell? ⟨p, 0, none⟩ = some (nE S.room) := (HM.out.ob 0 rfl).cell 0 rfl
    go_enter Try.func63, Try.ntmps63
    go_wp2_with fail
    refine HGET.out.mono ?_
    rintro en w1 ⟨rfl, rfl⟩
    clear HGET
    go_upto_region 4 with (fail)
    go_cut [32] (fun t wx => t = .bool (decide (0 < b.length ∧ S.room < b.length + u0)) ∧ Hid (Mem w0 (rfL p R S ++ pool G :: cs) wx))
    case first =>
      by_cases hb0 : 0 < b.length
      · have i3 : (0 : Int) < (b.length : Int) := by omega
        have HW := Lib.hid (wrap_small (a := (S.room : Int) - (u0 : Int)) (by omega) (by omega))
        obtain ⟨ww, wx⟩ := HW.out
        go_region_held3 (fun w' => w'.cell? ⟨p, 0, none⟩ = some (nE S.room))
          (first | exact c0 | exact q0)
          (first | (go_at_call 72; refine HUSED.out.mono ?_; rintro en w5 ⟨rfl, M5⟩; have q0 : w5.cell? ⟨p, 0, none⟩ = some (nE S.room) := (M5.ob 0 rfl).cell 0 rfl))
        all_goals
          go_wp2_with fail
          go_meet
          case rel =>
            refine ⟨?_, M5⟩
            congr 1
            rw [Bool.eq_iff_iff]
            simp only [decide_eq_true_eq]
            omega
      · have i3 : ¬ (0 : Int) < (b.length : Int) := by omega
        have d3 : decide ((0 : Int) < (b.length : Int)) = false := decide_eq_false i3
        go_quiet (fail)
        all_goals
          go_wp2_with fail
          go_meet
          case rel =>
            refine ⟨?_, HM.out.drewN _⟩
            have hno : ¬ (0 < b.length ∧ S.room < b.length + u0) := fun h => hb0 h.1
            rw [decide_eq_false hno]
    case rest =>
      obtain ⟨rfl, HM2⟩ := hcut
      clear HUSED c0 HM
      by_cases hfull : 0 < b.length ∧ S.room < b.length + u0
      · have e : r = (S, 9) := by rw [HR.out, if_pos hfull]
        rw [decide_eq_true hfull]
        have HE := Lib.hid e
        clear hfull e HR HADD HNOW HCH
        go_wp2_with fail
        go_ret
        rw [HE.out]
        exact ⟨rfl, G, fun _ _ h => h, HM2.out.unrf HF.out.1 HF.out.2.1⟩
      · have e : r = endE (fails (change S m ⟨false, x.now.length, b⟩)) := by rw [HR.out, if_neg hfull]
        rw [decide_eq_false hfull]
        have hc := HCH.out hfull
        have hbl : b.length ≤ M0 := by have := hc.end_; simp only at this; omega
        have hok : FsOk (fails (change S m ⟨false, x.now.length, b⟩)) := change_ok HF.out.2.1 (fun y hy => by rw [HX.out.1] at hy; cases hy; exact hc)
        have HK := Lib.hid (And.intro hok hbl)
        have HE := Lib.hid e
        have c1 : wc.cell? ⟨p, 1, none⟩ = some (.slice R.fa S.fl.length R.fc) := (HM2.out.ob 0 rfl).cell 1 rfl
        rw [HX.out.2.2.2.2.2.2] at c1
        clear hfull e hc hbl hok HR HCH
        go_wp2_with fail
        refine (HNOW.out wc HM2.out).mono ?_
        rintro en w2 ⟨A2, c2, rfl, M2⟩
        have HM3 := Lib.hid M2.drop
        clear M2 HNOW c1 HM2
        go_wp2_with fail
        refine (ref_done ⟨false, 0, []⟩ A none b cA 0 HM3.out (fun v m => HAA.out v m.drop.drop.drop.drop.drop) (fun v _ => Rd.nil _ _) HK.out.2 hcA (Nat.zero_le _) ⟨Nat.zero_le _, by simp [M0], by simp⟩).mono ?_
        rintro en w4 ⟨A4, c4, rfl, M4⟩
        have e0 : chDo b ⟨false, 0, []⟩ = b := by simp [chDo]
        rw [e0] at M4 ⊢
        have hc4 : b.length ≤ c4 := by obtain ⟨_, _, e, h⟩ := (M4.app 0 rfl).slice; cases e; exact h
        have M5 := M4.sinkAt 0 4 rfl rfl
        have HA4 := Lib.hid (HADD.out _ (fun _ _ h => .inl h) A4 c4 (.inr ⟨rfl, rfl⟩) hc4 w4 M5)
        clear M4 M5 hc4 HADD HM3 e0
        go_wp2_with fail
        refine HA4.out.mono ?_
        rintro en w6 ⟨R', rfl, hf', M6⟩
        have H6 := Lib.hid (And.intro hf' M6)
        clear hf' M6 HA4
        go_wp2_with fail
        go_ret
        rw [HE.out]
        exact ⟨rfl, _, fun _ _ h => .inl h, H6.out.2.unrf H6.out.1 HK.out.1⟩
end
end Go.Proofs.Ythphonkiolmkiaa
/- Layer 14, the reference walked: Write. -/
set_option linter.unusedVariables false
set_option linter.unusedSimpArgs false
namespace Go.Proofs.Ythphonkiolmkiaa
open Go.RowKit
set_option maxRecDepth 100000
set_option maxHeartbeats 8000000

section
variable {w0 w : World} {cs : List Chunk} {p : Nat} {S : Fs} {G : Facts}
theorem ref_Write (s : ByteArray) (k : Int) (b : List UInt8) (A : Option Addr) (cA : Nat) (h : Mem w0 (rfC p S G :: pool G :: cs) w) (hA : ∀ v, Mem w0 cs v → Rd v A (b.map bv)) (hb : b.length ≤ 140737488351232) (hcA : b.length ≤ cA) (ha : S.acts < 1000000000) :
    Calls Try.prog 64 #[pE p, sE s, .int .i64 k, .slice A b.length cA] w (RfRet w0 p (fsWrite S s k b).1 G cs (nE (fsWrite S s k b).2)) := by
  obtain ⟨R, hf, ho, M⟩ := h.rf
  have HGET := Lib.hid (ref_get s M hf ho)
  have HM := Lib.hid M
  have HF := Lib.hid (And.intro hf (And.intro ho ha))
  have HH := Lib.hid h
  have HAA := Lib.hid hA
  by_cases he : getE S s = 0
  case neg =>
    have e : fsWrite S s k b = (S, getE S s) := by unfold fsWrite; rw [if_pos he]
    rw [e]
    have i1 : ((getE S s : Int) != 0) = true := by simp; exact he
    rw [if_neg he] at HGET
    clear h hf ho ha M he e hA
    generalize getE S s = q at HGET i1 ⊢
    go_enter Try.func64, Try.ntmps64
    go_wp2_with fail
    refine HGET.out.mono ?_
    rintro en w1 ⟨rfl, rfl⟩
    clear HGET
    go_wp2_with fail
    go_ret
    exact ⟨rfl, G, fun _ _ h => h, HH.out⟩
  case pos =>
    obtain ⟨hd, n, hm, hgn⟩ := getE_dead he
    rw [if_pos he, he, hgn] at HGET
    obtain ⟨hn1, x, hx, hxo, hxa⟩ := ho.file hm
    obtain ⟨q, hq, hqx⟩ := hf.at hx
    obtain ⟨bb, o, hfa, _⟩ := rf_cells M hq
    have hnl : n - 1 < S.fl.length := (List.getElem?_eq_some_iff.1 hx).1
    have i2 : ((n - 1 : Nat) : Int) < (S.fl.length : Int) := by omega
    have hu : fsUsed S = S.used := by unfold fsUsed; rw [hd]; rfl
    have HXL := Lib.hid (show x.now.length ≤ 1048576 from hxo.now)
    have HX := Lib.hid (And.intro hx (And.intro hd (And.intro hxa (And.intro hm (And.intro hgn (And.intro he hfa))))))
    have hroom : S.room ≤ 1048576 := ho.room
    have hul : S.used ≤ 67108864 := by have := used_le ho.files ho.seen; unfold M0 at this; unfold Fs.used; omega
    have HU := Lib.hid hu
    have HNOW := Lib.hid (fun (v : World) (m : Mem w0 (rfL p R S ++ pool G :: cs) v) => ref_now m hf ho ha hx hfa)
    by_cases hk : k < 0 ∨ (x.now.length : Int) < k
    case pos =>
      have e : fsWrite S s k b = (S, 2) := by unfold fsWrite; rw [if_neg (by simp [he]), hgn, hxa, if_pos hk]
      rw [e]
      have c1 : w.cell? ⟨p, 1, none⟩ = some (.slice R.fa S.fl.length R.fc) := (HM.out.ob 0 rfl).cell 1 rfl
      rw [hfa] at c1
      generalize hm0 : n - 1 = m at HGET HNOW i2
      have hk2 : k < 0 ∨ (¬ k < 0 ∧ (x.now.length : Int) < k) := by omega
      clear h hf ho ha M he hd hm hgn hx hxo hxa hq hqx hfa hnl hn1 hA e hu hroom hul HU hk hm0 HX
      go_enter Try.func64, Try.ntmps64
      go_wp2_with fail
      refine HGET.out.mono ?_
      rintro en w1 ⟨rfl, rfl⟩
      clear HGET
      go_wp2_with fail
      refine (HNOW.out _ HM.out).mono ?_
      rintro en w2 ⟨A2, c2, rfl, M2⟩
      have HM2 := Lib.hid M2.drop
      clear M2 HNOW
      rcases hk2 with h1 | ⟨h1, h2⟩
      all_goals
        go_wp2_with fail
        go_ret
        exact ⟨rfl, G, fun _ _ h => h, HM2.out.unrf HF.out.1 HF.out.2.1⟩
    obtain ⟨j, rfl⟩ : ∃ j : Nat, k = (j : Int) := ⟨k.toNat, by omega⟩
    have hj : j ≤ x.now.length := by omega
    have HADD := Lib.hid (fun (G' : Facts) (hs : ∀ A l, G A l → G' A l) (B : Option Addr) (cB : Nat) (hG : G' B (b.map bv)) (hcB : b.length ≤ cB) (v : World) (m : Mem w0 (rfL p R S ++ pool G' :: cs) v) => ref_add (B := B) (cB := cB) ⟨false, j, b⟩ m (hf.mono hs) ho hx hd ha hG hcB)
    have hch := write_ch (b := b) (k := j) ho hm (by rw [hxa]; exact hj)
    rw [hxa] at hch
    have HCH := Lib.hid hch
    obtain ⟨r, hr⟩ : ∃ r, r = fsWrite S s (j : Int) b := ⟨_, rfl⟩
    have HR := Lib.hid (show r = if x.now.length < b.length + j ∧ S.room + x.now.length < b.length + j + S.used then (S, 9) else endE (fails (change S (n - 1) ⟨false, j, b⟩)) by rw [hr]; unfold fsWrite; rw [if_neg (by simp [he]), hgn, hxa, if_neg hk]; rfl)
    rw [← hr]
    generalize hu0 : S.used = u0 at HU hul HCH HR
    generalize hm0 : n - 1 = m at HGET HNOW i2 HADD HR HX
    clear h hf ho ha M he hd hm hgn hx hxo hxa hq hqx hnl hn1 hA hch hr hu0 hu hm0
    have c1 : w.cell? ⟨p, 1, none⟩ = some (.slice R.fa S.fl.length R.fc) := (HM.out.ob 0 rfl).cell 1 rfl
    rw [HX.out.2.2.2.2.2.2] at c1
    have hj1 : ¬ (j : Int) < 0 := by omega
    have hj2 : ¬ (x.now.length : Int) < (j : Int) := by omega
    have hxl := HXL.out
    go_enter Try.func64, Try.ntmps64
    go_wp2_with fail
    refine HGET.out.mono ?_
    rintro en w1 ⟨rfl, rfl⟩
    clear HGET
    go_wp2_with fail
    refine (HNOW.out _ HM.out).mono ?_
    rintro en w2 ⟨A2, c2, rfl, M2⟩
    have HM2 := Lib.hid M2.drop
    have c0 : w2.cell? ⟨p, 0, none⟩ = some (nE S.room) := (HM2.out.ob 0 rfl).cell 0 rfl
    have hused := ref_Used HM2.out.drew HF.out.1 HF.out.2.1 HF.out.2.2
    rw [HU.out] at hused
    have HUSED := Lib.hid hused
    clear hused
    clear M2 HNOW c1 HM
    go_upto_region 8 with (fail)
    obtain ⟨d, hdd⟩ : ∃ d : Int, d = (b.length : Int) - ((x.now.length : Int) - (j : Int)) := ⟨_, rfl⟩
    rw [← hdd]
    go_cut [55] (fun t wx => t = .bool (decide (x.now.length < b.length + j ∧ S.room + x.now.length < b.length + j + u0)) ∧ Hid (Mem w0 (rfL p R S ++ pool G :: cs) wx))
    case first =>
      by_cases hb0 : 0 < d
      · have HW := Lib.hid (wrap_small (a := (S.room : Int) - (u0 : Int)) (by omega) (by omega))
        obtain ⟨ww, wx⟩ := HW.out
        have HDD := Lib.hid hdd
        clear hdd
        have i3 : decide ((0 : Int) < d) = true := decide_eq_true hb0
        go_region_held3 (fun w' => w'.cell? ⟨p, 0, none⟩ = some (nE S.room))
          (first | exact c0 | exact q0)
          (first | (go_at_call 72; refine HUSED.out.mono ?_; rintro en w5 ⟨rfl, M5⟩; have q0 : w5.cell? ⟨p, 0, none⟩ = some (nE S.room) := (M5.ob 0 rfl).cell 0 rfl))
        all_goals
          go_wp2_with fail
          go_meet
          case rel =>
            have hdd := HDD.out
            refine ⟨?_, M5⟩
            congr 1
            rw [Bool.eq_iff_iff]
            simp only [decide_eq_true_eq]
            omega
      · have d3 : decide ((0 : Int) < d) = false := decide_eq_false hb0
        have HDD := Lib.hid hdd
        have i3 : ¬ (0 : Int) < d := hb0
        clear hdd hb0
        go_quiet (fail)
        all_goals
          go_wp2_with fail
          go_meet
          case rel =>
            refine ⟨?_, HM2.out.drewN _⟩
            have hdd := HDD.out
            have hno : ¬ (x.now.length < b.length + j ∧ S.room + x.now.length < b.length + j + u0) := by omega
            rw [decide_eq_false hno]
    case rest =>
      clear HUSED c0 HM2
      obtain ⟨rfl, HM2⟩ := hcut
      by_cases hfull : x.now.length < b.length + j ∧ S.room + x.now.length < b.length + j + u0
      · have e : r = (S, 9) := by rw [HR.out, if_pos hfull]
        rw [decide_eq_true hfull]
        have HE := Lib.hid e
        clear hfull e HR HADD HCH
        go_wp2_with fail
        go_ret
        rw [HE.out]
        exact ⟨rfl, G, fun _ _ h => h, HM2.out.unrf HF.out.1 HF.out.2.1⟩
      · have e : r = endE (fails (change S m ⟨false, j, b⟩)) := by rw [HR.out, if_neg hfull]
        rw [decide_eq_false hfull]
        have hc := HCH.out hfull
        have hbl : b.length ≤ M0 := by have := hc.end_; simp only at this; omega
        have hok : FsOk (fails (change S m ⟨false, j, b⟩)) := change_ok HF.out.2.1 (fun y hy => by rw [HX.out.1] at hy; cases hy; exact hc)
        have HK := Lib.hid (And.intro hok hbl)
        have HE := Lib.hid e
        have HM3 := HM2
        clear hfull e hc hbl hok HR HCH HM2
        go_wp2_with fail
        refine (ref_done ⟨false, 0, []⟩ A none b cA 0 HM3.out (fun v m => HAA.out v m.drop.drop.drop.drop.drop) (fun v _ => Rd.nil _ _) HK.out.2 hcA (Nat.zero_le _) ⟨Nat.zero_le _, by simp [M0], by simp⟩).mono ?_
        rintro en w4 ⟨A4, c4, rfl, M4⟩
        have e0 : chDo b ⟨false, 0, []⟩ = b := by simp [chDo]
        rw [e0] at M4 ⊢
        have hc4 : b.length ≤ c4 := by obtain ⟨_, _, e, h⟩ := (M4.app 0 rfl).slice; cases e; exact h
        have M5 := M4.sinkAt 0 4 rfl rfl
        have HA4 := Lib.hid (HADD.out _ (fun _ _ h => .inl h) A4 c4 (.inr ⟨rfl, rfl⟩) hc4 w4 M5)
        clear M4 M5 hc4 HADD HM3 e0
        go_wp2_with fail
        refine HA4.out.mono ?_
        rintro en w6 ⟨R', rfl, hf', M6⟩
        have H6 := Lib.hid (And.intro hf' M6)
        clear hf' M6 HA4
        go_wp2_with fail
        go_ret
        rw [HE.out]
        exact ⟨rfl, _, fun _ _ h => .inl h, H6.out.2.unrf H6.out.1 HK.out.1⟩
end
end Go.Proofs.Ythphonkiolmkiaa
