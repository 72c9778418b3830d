/- Texts of the claim SimfsTwice, part 4: SimV, SepP, SimW, SimX, SimY, SimZ, SimDo, SimPa, SimRen, SimKa. -/
import Derived.Test.YthphonkiolmkiaaGSimfsTwice3
import Derived.Deep.RegionHeld3
import Derived.Test.YthphonkiolmkiaaGSimfsTwice2
import Derived.Test.YthphonkiolmkiaaGSimfsTwice1
import Derived.Lib.SlBytesConst
/- Layer 14 walked: what a failure leaves of a file. -/
set_option linter.unusedVariables false
set_option linter.unusedSimpArgs false
namespace Go.Proofs.Ythphonkiolmkiaa
open Go.RowKit
set_option maxRecDepth 100000
set_option maxHeartbeats 8000000

/-- A record of k cells, of a row of such. -/
theorem Rd.rec {α : Type} {f : α → List Value} {k : Nat} {w : World} {A : Option Addr} {l : List α} (hk : ∀ a, (f a).length = k) (h : Rd w A (l.flatMap f)) {j : Nat} {x : α} (hx : l[j]? = some x) (hpos : 0 < k) :
    ∃ b o, A = some ⟨b, o, none⟩ ∧ ∀ r v, (f x)[r]? = some v → w.cell? ⟨b, o + j * k + r, none⟩ = some v := by
  have key : ∀ (l : List α) (j : Nat), l[j]? = some x → ∀ r v, (f x)[r]? = some v → (l.flatMap f)[j * k + r]? = some v := by
    intro l
    induction l with
    | nil => intro j h; simp at h
    | cons y l ih =>
      intro j h r v hv
      rw [List.flatMap_cons]
      cases j with
      | zero =>
        simp at h; subst h
        have := (List.getElem?_eq_some_iff.1 hv).1
        rw [List.getElem?_append_left (by omega), Nat.zero_mul, Nat.zero_add]; exact hv
      | succ j =>
        have h2 := ih j (by simpa using h) r v hv
        rw [List.getElem?_append_right (by rw [hk, Nat.succ_mul]; omega), hk, show (j + 1) * k + r - k = j * k + r by rw [Nat.succ_mul]; omega]
        exact h2
  have h0 : 0 < (f x).length := by rw [hk]; exact hpos
  obtain ⟨b, o, rfl, hc⟩ := h (by
    intro e
    have := key l j hx 0 _ (List.getElem?_eq_getElem h0)
    rw [e] at this; simp at this)
  exact ⟨b, o, rfl, fun r v hv => by rw [Nat.add_assoc]; exact hc _ _ (key l j hx r v hv)⟩
theorem Mem.rowCut {w0 w : World} {cs : List Chunk} {T : TypeId} {n c : Nat} {A : Option Addr} {xs : List Value} (h : Mem w0 (Go.Proofs.Ythphonkiolmkiaa.row T 1 (.slice A n c) n xs :: cs) w) (k : Nat) (hk : k ≤ n) : Mem w0 (Go.Proofs.Ythphonkiolmkiaa.row T 1 (.slice A k k) k (xs.take k) :: cs) w := by
  have ha := h.app 0 rfl
  have hc : n ≤ c := by obtain ⟨_, _, e, h2⟩ := ha.slice; cases e; exact h2
  have h1 := ha.cuts 0 k k (Nat.zero_le _) (Nat.le_refl _) (by omega) hk
  rw [cutAddr_zero] at h1
  simp only [Nat.sub_zero, Nat.zero_mul, List.drop_zero, Nat.mul_one] at h1
  exact h.grow 0 rfl h1 ⟨rfl, rfl, rfl, Nat.le_refl _, fun _ _ _ => rfl⟩ (.inl (by cases A <;> rfl))
/-- What a change makes of a row of the call's own. -/
theorem Mem.rowDo {w0 w w' : World} {cs : List Chunk} {A A' : Option Addr} {n' cap cap' : Nat} {s : List UInt8} {c : Chg} (h : Mem w0 (Go.Proofs.Ythphonkiolmkiaa.row 5 1 (.slice A s.length cap) s.length (s.map bv) :: cs) w) (hb : Bl w w') (hc : ChOk s c)
    (hn : (chDo s c).length = n')
    (hr : (c.cut = true ∧ A' = A ∧ cap' = (chDo s c).length) ∨ (c.cut = false ∧ App w' w.heap.size 5 1 (.slice A' (chDo s c).length cap') (chDo s c).length ((chDo s c).map bv))) :
    Mem w0 (Go.Proofs.Ythphonkiolmkiaa.row 5 1 (.slice A' n' cap') n' ((chDo s c).map bv) :: cs) w' := by
  subst hn
  rcases hr with ⟨h1, rfl, h2⟩ | ⟨_, h1⟩
  · have e : (chDo s c) = s.take c.off := by unfold chDo; rw [if_pos h1]
    have hl : (chDo s c).length = c.off := by rw [e, List.length_take]; have := hc.off; omega
    rw [h2, hl, e, List.map_take]
    exact (h.bl hb).rowCut c.off hc.off
  · exact ((h.newRow hb h1).bring 1).drop
theorem Mem.closeFile {w0 w : World} {cs : List Chunk} {A B : Chunk} {b : Nat} {R : FlR} {x : Fl} (h : Mem w0 (A :: B :: (flL b R x ++ cs)) w) (hf : FlFit R x) : Mem w0 (A :: B :: fileC b x :: cs) w :=
  ((Mem.unfile (cs := B :: A :: cs) ((h.away 4).away 3) hf).bring 1).bring 2
theorem foldDo_ok {x : Fl} (hx : FlOk x) {k : Nat} {c : Chg} (hk : x.row[k]? = some c) : ChOk ((x.row.take k).foldl chDo x.sure) c ∧ ((x.row.take k).foldl chDo x.sure).length ≤ M0 ∧ (x.row.take (k + 1)).foldl chDo x.sure = chDo ((x.row.take k).foldl chDo x.sure) c := by
  refine ⟨rowOk_at hx.row hk, rowOk_len (rowOk_take hx.row k) hx.sure, ?_⟩
  rw [List.take_add_one, hk, List.foldl_append]; rfl
abbrev takeV (g : Nat) : Value := .func (.func 55) #[] #[.pointer (some ⟨g, 0, none⟩)]
theorem fl_left {g b : Nat} {K cs : List Chunk} {l : List Int} {V : Value} {x : Fl} {w0 w : World} (h : Mem w0 (blk g 24 #[V] :: fileC b x :: cs) w) (hV : Cuts w0 K l V) (hK : ∀ v, Mem w0 (fileC b x :: cs) v → Mem w0 K v) (hx : FlOk x) (hrow : x.row.length ≤ 1000000000) (hi : ∀ a ∈ l, -9223372036854775808 ≤ a ∧ a ≤ 9223372036854775807) :
    Calls Try.prog 58 #[pE b, takeV g] w (fun en w' => ∃ A c V', en = .returned (.slice A (leftOfF x l).1.length c) ∧ Cuts w0 K (leftOfF x l).2 V' ∧ Mem w0 (row 5 1 (.slice A (leftOfF x l).1.length c) (leftOfF x l).1.length ((leftOfF x l).1.map bv) :: blk g 24 #[V'] :: fileC b x :: cs) w') := by
  obtain ⟨R, hf, h1⟩ := (h.bring 1).file
  have h2 : Mem w0 (blk g 24 #[V] :: (flL b R x ++ cs)) w := h1.bring 3
  have HT := Lib.hid (fs_take h2 hV (fun v m => hK v (m.unfile hf)) (many := x.row.length + 1) (by omega) (by omega) hi)
  have c2 : w.cell? ⟨b, 2, none⟩ = some R.v := (h1.ob 0 rfl).cell 2 rfl
  have HR := Lib.hid (And.intro hf (And.intro hx (And.intro hrow hi)))
  have HK := Lib.hid hK
  obtain ⟨r, hr⟩ : ∃ r, r = leftOfF x l := ⟨_, rfl⟩
  rw [← hr]
  have HRES := Lib.hid hr
  have hkl := takeN_lt (many := x.row.length + 1) (by omega) l
  have hil : ∀ a ∈ (takeN (x.row.length + 1) l).2, -9223372036854775808 ≤ a ∧ a ≤ 9223372036854775807 := fun a ha => hi a (by cases l with | nil => exact ha | cons y l => exact List.mem_cons_of_mem _ ha)
  obtain ⟨Av, cv, hv, hcv⟩ : ∃ A c, R.v = .slice A x.row.length c ∧ x.row.length ≤ c := (h1.app 1 rfl).slice
  rw [hv] at c2
  unfold leftOfF at HRES
  generalize takeN (x.row.length + 1) l = tk at HT HRES hkl hil
  obtain ⟨k, l1⟩ := tk
  simp only at HT HRES hkl hil
  have HIL := Lib.hid hil
  have HV := Lib.hid hv
  clear h h1 h2 hV hK hf hx hi hr hil hv
  go_enter Try.func58, Try.ntmps58
  go_upto_region 1 with (fail)
  go_wp2_with fail
  refine HT.out.mono ?_
  rintro en w1 ⟨rfl, V1, hV1, M1⟩
  have HV1 := Lib.hid hV1
  have HM1 := Lib.hid M1
  have c0 : w1.cell? ⟨b, 0, none⟩ = some (.slice R.a x.sure.length R.ac) := (M1.ob 1 rfl).cell 0 rfl
  clear HT hV1 M1 c2
  have HN := Lib.hid (App.nil w1 w1.heap.size 5 1)
  have HA := Lib.hid (HM1.out.rd 3 rfl HR.out.1.sure)
  have hsl : x.sure.length ≤ 1048576 := HR.out.2.1.sure
  have s1 := fun v => cut_h (P := Try.prog) 83 93 3 Try.underlying83 (by kernel_rfl) Av x.row.length cv k (by omega) v
  have HS1 := Lib.hid s1
  have HSL := Lib.hid hsl
  clear s1
  go_upto_region 3 with (at_builtin; go_must (refine append_row rfl _ _ 22 5 (.int .u8 0) 1 1 rfl Try.underlying22 Try.infoU8 rfl (by decide) w1.heap.size HN.out (by rfl) (by rfl) HA.out (by simp) (bv_all x.sure) (by omega) (by omega) (Nat.le_refl _) ?_); intro v2 w2 hown2 hgr2 hat2; obtain ⟨A2, ca2, rfl, hcc2⟩ := hown2.slice)
  have M2 := HM1.out.newRow ((Bl.refl _).grown hgr2 (by intro q hq; cases hq)) hown2
  rw [List.nil_append] at M2
  have HM2 := Lib.hid (show Mem w0 (row 5 1 (.slice A2 (0 + x.sure.length) ca2) (0 + x.sure.length) (x.sure.map bv) :: blk g 24 #[V1] :: (flL b R x ++ cs)) w2 from M2)
  rw [Nat.zero_add] at HM2
  have c2 : w2.cell? ⟨b, 2, none⟩ = some (.slice Av x.row.length cv) := by rw [← HV.out]; exact (HM2.out.ob 2 rfl).cell 2 rfl
  have s1 := HS1.out w2
  have s2 := HS1.out w2.drew
  clear M2 hown2 hgr2 hat2 hcc2 hsl c0
  go_wp2_with fail
  clear c2 s1 s2
  go_loopw [6, 8, 31] (fun v6 _ v31 wr => ∃ (j : Nat) (A : Option Addr) (c : Nat), v31 = .int .i64 j ∧ j ≤ k ∧ v6 = .slice A ((x.row.take j).foldl chDo x.sure).length c ∧ ((x.row.take j).foldl chDo x.sure).length ≤ c ∧ Hid (Mem w0 (row 5 1 (.slice A ((x.row.take j).foldl chDo x.sure).length c) ((x.row.take j).foldl chDo x.sure).length (((x.row.take j).foldl chDo x.sure).map bv) :: blk g 24 #[V1] :: (flL b R x ++ cs)) wr)) (fun _ _ v31 _ => k - (intOf v31).toNat)
  case atStart => exact ⟨0, A2, ca2, rfl, Nat.zero_le _, rfl, by obtain ⟨_, _, e, h⟩ := (HM2.out.app 0 rfl).slice; cases e; exact h, HM2.out⟩
  case round =>
    obtain ⟨j, A, c, rfl, hj, rfl, hcap, HS⟩ := hrel
    by_cases hlt : j < k
    case pos =>
      have hxl : j < x.row.length := by omega
      obtain ⟨ch, hch⟩ : ∃ ch, x.row[j]? = some ch := ⟨_, List.getElem?_eq_getElem hxl⟩
      obtain ⟨q, hq, hq1⟩ : ∃ q, R.chs[j]? = some q ∧ q.1 = ch := by
        have h := HR.out.1.row
        rw [← h, List.getElem?_map] at hch
        obtain ⟨q, h1, h2⟩ := Option.map_eq_some_iff.1 hch
        exact ⟨q, h1, h2⟩
      obtain ⟨ch', B, cB⟩ := q
      simp only at hq1
      subst hq1
      obtain ⟨hF, hcB⟩ := HR.out.1.ch _ (List.mem_of_getElem? hq)
      simp only at hF hcB
      have happ := HS.out.app 3 rfl
      rw [HV.out] at happ
      obtain ⟨bb, o, rfl, hcell⟩ := Rd.rec (f := chv) (k := 3) (fun _ => rfl) happ.rd.1 hq (by omega)
      have k0 : wr.cell? ⟨bb, o + j * 3, none⟩ = some (.bool ch'.cut) := hcell 0 _ rfl
      have k1 : wr.cell? ⟨bb, o + j * 3 + 1, none⟩ = some (nE ch'.off) := hcell 1 _ rfl
      have k2 : wr.cell? ⟨bb, o + j * 3 + 2, none⟩ = some (.slice B ch'.b.length cB) := hcell 2 _ rfl
      obtain ⟨hok, hlen, hfold⟩ := foldDo_ok HR.out.2.1 hch
      have HM3 := Lib.hid (HS.out.alloc (.cells #[.bool ch'.cut, nE ch'.off, .slice B ch'.b.length cB] 93))
      have HQ := Lib.hid (And.intro hok (And.intro hfold (And.intro hF hlen)))
      have HD := Lib.hid (fun v (hA : Rd v A (((x.row.take j).foldl chDo x.sure).map bv)) (hB : Rd v B (ch'.b.map bv)) => change_do ch' A B ((x.row.take j).foldl chDo x.sure) c cB v hA hB hlen hcap hcB hok)
      have hlt2 : (j : Int) < (k : Int) := by omega
      have HL := Lib.hid hlen
      clear HS happ hcell hok hfold hF hch hq HM2 hlen
      go_wp2_with fail
      refine (HD.out _ (HM3.out.app 1 rfl).rd.1 (HM3.out.rd 5 rfl HQ.out.2.2.1)).mono ?_
      rintro en w4 ⟨hbl4, A4, c4, rfl, hcap4, hor4⟩
      have M4 := (((HM3.out.bring 1).rowDo hbl4 HQ.out.1 rfl hor4).bring 1).drop
      have HM4 := Lib.hid (show Mem w0 (row 5 1 (.slice A4 (chDo ((x.row.take j).foldl chDo x.sure) ch').length c4) (chDo ((x.row.take j).foldl chDo x.sure) ch').length ((chDo ((x.row.take j).foldl chDo x.sure) ch').map bv) :: blk g 24 #[V1] :: (flL b R x ++ cs)) w4 from M4)
      rw [← HQ.out.2.1] at HM4 hcap4 ⊢
      clear M4 hbl4 hor4 HM3 HD k0 k1 k2
      go_wp2_with fail
      go_roundw
      case rel => exact ⟨j + 1, A4, c4, rfl, hlt, rfl, hcap4, HM4.out⟩
      case measure => simp [intOf]; omega
    case neg =>
      obtain rfl : j = k := by omega
      clear hlt hj HM2
      have hs0 : ((x.row.take j).foldl chDo x.sure).length ≤ M0 := rowOk_len (rowOk_take HR.out.2.1.row j) HR.out.2.1.sure
      obtain ⟨s, hs⟩ : ∃ s, s = (x.row.take j).foldl chDo x.sure := ⟨_, rfl⟩
      rw [← hs] at HS HRES hcap hs0 ⊢
      have HSD := Lib.hid hs
      have c2 : wr.cell? ⟨b, 2, none⟩ = some (.slice Av x.row.length cv) := by rw [← HV.out]; exact (HS.out.ob 2 rfl).cell 2 rfl
      clear hs
      by_cases hjl : j = x.row.length
      case pos =>
        have e1 : r = (s, l1) := by
          have h := HRES.out
          rw [List.getElem?_eq_none (by omega)] at h
          exact h
        have E1 := Lib.hid e1
        subst hjl
        clear HRES e1 HSD hs0
        go_wp2_with fail
        go_ret
        rw [E1.out]
        exact ⟨A, c, V1, rfl, HV1.out, HS.out.closeFile HR.out.1⟩
      case neg =>
        have hxl : j < x.row.length := by omega
        have hjl2 : ((j : Int) == (x.row.length : Int)) = false := by simp; omega
        obtain ⟨ch, hch⟩ : ∃ ch, x.row[j]? = some ch := ⟨_, List.getElem?_eq_getElem hxl⟩
        obtain ⟨q, hq, hq1⟩ : ∃ q, R.chs[j]? = some q ∧ q.1 = ch := by
          have h := HR.out.1.row
          rw [← h, List.getElem?_map] at hch
          obtain ⟨q, h1, h2⟩ := Option.map_eq_some_iff.1 hch
          exact ⟨q, h1, h2⟩
        obtain ⟨ch', B, cB⟩ := q
        simp only at hq1
        subst hq1
        obtain ⟨hF, hcB⟩ := HR.out.1.ch _ (List.mem_of_getElem? hq)
        simp only at hF hcB
        have happ := HS.out.app 3 rfl
        rw [HV.out] at happ
        obtain ⟨bb, o, rfl, hcell⟩ := Rd.rec (f := chv) (k := 3) (fun _ => rfl) happ.rd.1 hq (by omega)
        have k0 : wr.cell? ⟨bb, o + j * 3, none⟩ = some (.bool ch'.cut) := hcell 0 _ rfl
        have k1 : wr.cell? ⟨bb, o + j * 3 + 1, none⟩ = some (nE ch'.off) := hcell 1 _ rfl
        have k2 : wr.cell? ⟨bb, o + j * 3 + 2, none⟩ = some (.slice B ch'.b.length cB) := hcell 2 _ rfl
        obtain ⟨hok, _, _⟩ := foldDo_ok HR.out.2.1 hch
        rw [← HSD.out] at hok
        cases hcut : ch'.cut with
        | true =>
          have e1 : r = (s, l1) := by
            have h := HRES.out
            rw [hch] at h
            simpa [hcut] using h
          have E1 := Lib.hid e1
          rw [hcut] at k0
          clear HRES e1 HSD hs0 hok hch hq hcell happ hcut hF hcB
          go_wp2_with fail
          go_ret
          rw [E1.out]
          exact ⟨A, c, V1, rfl, HV1.out, HS.out.closeFile HR.out.1⟩
        | false =>
          have e1 : r = (torn s ch' (takeN (ch'.b.length + 1) l1).1, (takeN (ch'.b.length + 1) l1).2) := by
            have h := HRES.out
            rw [hch] at h
            simpa [hcut] using h
          have E1 := Lib.hid e1
          rw [hcut] at k0
          have HM3 := Lib.hid (HS.out.alloc (.cells #[.bool false, nE ch'.off, .slice B ch'.b.length cB] 93))
          have HF := Lib.hid (And.intro hF (And.intro hcB (And.intro hok hs0)))
          have HCUT := Lib.hid hcut
          clear HRES e1 HSD hs0 hok hch hq hcell happ hcut hF hcB hxl
          have hend : (ch'.off : Int) + (ch'.b.length : Int) ≤ 1048576 := by have := HF.out.2.2.1.end_; unfold M0 at this; omega
          have hml := takeN_lt (many := ch'.b.length + 1) (by omega) l1
          have HTK := Lib.hid (fun v (h : Mem w0 (blk g 24 #[V1] :: blk wr.heap.size 93 #[.bool false, nE ch'.off, .slice B ch'.b.length cB] :: row 5 1 (.slice A s.length c) s.length (s.map bv) :: (flL b R x ++ cs)) v) => fs_take h HV1.out (fun v m => HK.out v (m.drop.drop.unfile HR.out.1)) (many := ch'.b.length + 1) (by omega) (by omega) HIL.out)
          generalize takeN (ch'.b.length + 1) l1 = tk at HTK E1 hml
          obtain ⟨m, l2⟩ := tk
          simp only at HTK E1 hml
          have hml2 : (m : Int) ≤ (ch'.b.length : Int) := by omega
          go_upto_region 11 with (fail)
          clear k0 k1 k2 c2 HS
          generalize wr.alloc (.cells #[.bool false, .int .i64 (ch'.off : Int), .slice B ch'.b.length cB] 93) = v at HM3 ⊢
          generalize wr.heap.size = ga at HM3 HTK ⊢
          have k1 : v.cell? ⟨ga, 1, none⟩ = some (nE ch'.off) := (HM3.out.ob 0 rfl).cell 1 rfl
          have k2 : v.cell? ⟨ga, 2, none⟩ = some (.slice B ch'.b.length cB) := (HM3.out.ob 0 rfl).cell 2 rfl
          have HC := Lib.hid (HTK.out _ (HM3.out.drew.bring 2))
          clear HTK
          have HW1 := Lib.hid (wrap_small (a := (ch'.b.length : Int) + 1) (by omega) (by omega))
          have HW2 := Lib.hid (wrap_small (a := (ch'.off : Int) + (m : Int)) (by omega) (by omega))
          obtain ⟨ww1, wx1⟩ := HW1.out
          obtain ⟨ww2, wx2⟩ := HW2.out
          go_cut [10] (fun t wx => t = .int .i64 ((ch'.off : Int) + (m : Int)) ∧ ∃ V2, Hid (Cuts w0 K l2 V2) ∧ Hid (Mem w0 (blk g 24 #[V2] :: blk ga 93 #[.bool false, nE ch'.off, .slice B ch'.b.length cB] :: row 5 1 (.slice A s.length c) s.length (s.map bv) :: (flL b R x ++ cs)) wx))
          case first =>
            go_region_held3 (fun w' => w'.cell? ⟨ga, 1, none⟩ = some (nE ch'.off) ∧ w'.cell? ⟨ga, 2, none⟩ = some (.slice B ch'.b.length cB))
              (first | exact ⟨k1, k2⟩ | exact ⟨q1, q2⟩)
              (first | (go_at_call 55; refine HC.out.mono ?_; rintro e w5 ⟨rfl, V2, hV2, M5⟩; have q1 : w5.cell? ⟨ga, 1, none⟩ = some (nE ch'.off) := (M5.ob 1 rfl).cell 1 rfl; have q2 : w5.cell? ⟨ga, 2, none⟩ = some (.slice B ch'.b.length cB) := (M5.ob 1 rfl).cell 2 rfl))
            all_goals
              go_wp2_with fail
              go_meet
              case rel => exact ⟨rfl, V2, hV2, M5⟩
          case rest =>
            obtain ⟨rfl, V2, HV2, HM5⟩ := hcut
            clear ww1 wx1 ww2 wx2 HC k1 k2 HM3 HW1
            obtain ⟨e, he⟩ : ∃ e : Nat, e = if ch'.off + m < s.length then ch'.off + m - (ch'.off + m) % 512 else ch'.off + m := ⟨_, rfl⟩
            have E2 := Lib.hid (show r = (if ch'.off < e then chDo s ⟨false, ch'.off, ch'.b.take (e - ch'.off)⟩ else s, l2) by rw [E1.out, he]; rfl)
            have HE := Lib.hid (show e ≤ ch'.off + m by rw [he]; split <;> omega)
            have HS0 := Lib.hid HF.out.2.2.2
            clear E1
            go_upto_if 76 with (fail)
            go_cut [10] (fun t wx => t = .int .i64 (e : Int) ∧ wx = wc)
            case first =>
              by_cases hlt : ch'.off + m < s.length
              · rw [if_pos hlt] at he
                have i1 : (ch'.off : Int) + (m : Int) < (s.length : Int) := by omega
                have t1 : Int.tmod ((ch'.off : Int) + (m : Int)) 512 = (((ch'.off + m) % 512 : Nat) : Int) := by rw [Int.tmod_eq_emod_of_nonneg (by omega)]; omega
                have hmd := Nat.mod_le (ch'.off + m) 512
                have hme : ch'.off + m - (ch'.off + m) % 512 = e := he.symm
                generalize (ch'.off + m) % 512 = md at t1 hmd hme
                have hmd2 : (md : Int) ≤ (ch'.off : Int) + (m : Int) := by omega
                have HME := Lib.hid (show (ch'.off : Int) + (m : Int) - (md : Int) = (e : Int) by omega)
                clear he hlt hmd hme
                go_wp2_with fail
                all_goals first | (exfalso; omega) | skip
                go_meet
                case rel => exact ⟨by rw [HME.out], rfl⟩
              · rw [if_neg hlt] at he
                have i1 : ¬ ((ch'.off : Int) + (m : Int) < (s.length : Int)) := by omega
                have he2 : (ch'.off : Int) + (m : Int) = (e : Int) := by omega
                clear he hlt
                go_wp2_with fail
                go_meet
                case rel => exact ⟨rfl, rfl⟩
            case rest =>
              obtain ⟨rfl, rfl⟩ := hcut
              clear he
              have k1 : wc.cell? ⟨ga, 1, none⟩ = some (nE ch'.off) := (HM5.out.ob 1 rfl).cell 1 rfl
              have k2 : wc.cell? ⟨ga, 2, none⟩ = some (.slice B ch'.b.length cB) := (HM5.out.ob 1 rfl).cell 2 rfl
              by_cases hge : ch'.off < e
              case neg =>
                have i1 : ¬ ((ch'.off : Int) < (e : Int)) := by omega
                have E3 := Lib.hid (show r = (s, l2) by rw [E2.out, if_neg hge])
                clear hge k2 hend hml hml2 hjl hjl2
                go_wp2_with fail
                go_ret
                rw [E3.out]
                exact ⟨A, c, rfl, V2, HV2.out, (((HM5.out.bring 1).drop).bring 1).closeFile HR.out.1⟩
              case pos =>
                have i1 : (ch'.off : Int) < (e : Int) := by omega
                have E3 := Lib.hid (show r = (chDo s ⟨false, ch'.off, ch'.b.take (e - ch'.off)⟩, l2) by rw [E2.out, if_pos hge])
                have hel := HE.out
                obtain ⟨d, hd⟩ : ∃ d, d = e - ch'.off := ⟨_, rfl⟩
                rw [← hd] at E3
                have hde : (e : Int) - (ch'.off : Int) = (d : Int) := by omega
                have hdb : d ≤ ch'.b.length := by omega
                have hlen : (ch'.b.take d).length = d := by rw [List.length_take]; omega
                have hcBd : d ≤ cB := Nat.le_trans hdb HF.out.2.1
                have HW := Lib.hid (wrap_small (a := (e : Int) - (ch'.off : Int)) (by omega) (by omega))
                have HCH := Lib.hid (show ChOk s ⟨false, ch'.off, ch'.b.take d⟩ from ⟨HF.out.2.2.1.off, by show ch'.off + (ch'.b.take d).length ≤ M0; rw [hlen]; unfold M0; omega, fun h => by cases h⟩)
                have HD := Lib.hid (show Calls Try.prog 83 #[.agg #[.bool false, nE ch'.off, .slice B d d], .slice A s.length c] wc.drew _ from by
                  have h := change_do ⟨false, ch'.off, ch'.b.take d⟩ A B s c d wc.drew (HM5.out.drew.app 2 rfl).rd.1 (by have h := (HM5.out.drew.rd 5 rfl HF.out.1).take d; rw [← List.map_take] at h; exact h) HS0.out hcap (by show (ch'.b.take d).length ≤ d; omega) HCH.out
                  simp only at h
                  rw [hlen] at h
                  exact h)
                have s1 := run_cut (P := Try.prog) (w := wc.drew) 22 5 1 Try.underlying22 Try.sizeU8 B ch'.b.length cB none (some (.int .i64 ((e : Int) - (ch'.off : Int)))) (some (.int .i64 ((e : Int) - (ch'.off : Int)))) 0 d d (by rw [hde]; have := bounds_hm (P := Try.prog) (w := wc.drew) ch'.b.length cB .i64 .i64 (d : Int) (d : Int) (by omega) (by omega) (by omega); simpa using this)
                rw [cutAddr_zero, Nat.sub_zero] at s1
                have HM6 := Lib.hid HM5.out.drew
                go_upto_region 15 with (fail)
                clear hge hend hml hml2 hjl hjl2 hd hel hdb hlen hcBd hde HE E2
                obtain ⟨x1, x2⟩ := HW.out
                go_still_tail 15, (by kernel_rfl)
                change wpList _ _ _ _ _ wc.drew
                clear x1 x2 s1 k1 k2
                go_wp2_with fail
                refine HD.out.mono ?_
                rintro en w7 ⟨hbl7, A7, c7, rfl, hcap7, hor7⟩
                have M7 := Lib.hid ((((HM6.out.bring 2).rowDo hbl7 HCH.out rfl (hor7.imp id (fun h => ⟨rfl, h.2⟩))).bring 2).drop)
                clear hbl7 hor7 HM6 HM5
                go_wp2_with fail
                go_ret
                rw [E3.out]
                exact ⟨A7, c7, V2, rfl, HV2.out, M7.out.closeFile HR.out.1⟩
end Go.Proofs.Ythphonkiolmkiaa
/- m1[k], m2[k] = v1, v2: entries of maps as parts of memory. No program in sight. -/
set_option linter.unusedVariables false
set_option linter.unusedSimpArgs false
namespace Go.Proofs.Ythphonkiolmkiaa
open Go.RowKit Go.MapKept
open Go.ChangeMaps (setBlock)
set_option linter.unusedSectionVars false
theorem findIdx_push {es : Array MapEntry} {e : MapEntry} (h : ∀ x ∈ es.toList, x.born < e.born) : (es.push e).findIdx? (fun x => (x.born : Int) == (e.born : Int)) = some es.size := by
  rw [Array.findIdx?_push]
  have h1 : es.findIdx? (fun x => (x.born : Int) == (e.born : Int)) = none := by
    rw [Array.findIdx?_eq_none_iff]
    intro x hx
    have := h x (by simpa using hx)
    simp; omega
  rw [h1]; simp
section
variable {α β : Type} {P : Program} {w0 w : World} {cs : List Chunk} {b : Nat} {d : TypeDesc} {t kt et : TypeId} {kE : α → Value} {vE : β → Value} {L : List (α × β)}
theorem MapIs.entryPut [DecidableEq α] (h : MapIs w b d (mEnc kE vE L)) (K : KeyEnc d kE) (ht : P.underlying t = some (.map kt et)) (hd : P.underlying kt = some d) {z : β} (hz : ∀ w, (zeroValue et).run P w = .ok (vE z) w) {k : α} (hk : ∀ p ∈ L, p.1 ≠ k) (v : β) :
    ∃ (st : Int) (w1 w2 : World), (Instr.mapEntry t (.map (some b)) (kE k)).run P w = .ok (.tuple #[vE z, .int .i64 st]) w1 ∧ (Instr.entryStore t (.map (some b)) (.int .i64 st) (vE v)).run P w1 = .ok () w2 ∧ MapIs w1 b d (mEnc kE vE (L ++ [(k, z)])) ∧ MapIs w2 b d (mEnc kE vE (L ++ [(k, v)])) ∧ Ch [b] w w1 ∧ Ch [b] w1 w2 := by
  obtain ⟨es, clock, hb, hs, hks, hl, hf⟩ := h.find K k
  rcases hf with ⟨h1, h2, h3⟩ | ⟨j, e, u, _, _, _, _, h5⟩
  · obtain ⟨c1, c2, c3⟩ := setBlock_ch (.map (es.push ⟨kE k, vE z, clock⟩) (clock + 1)) hb
    obtain ⟨d1, d2, d3⟩ := setBlock_ch (.map (es.push ⟨kE k, vE v, clock⟩) (clock + 1)) c2
    have hfi := findIdx_push (es := es) (e := ⟨kE k, vE z, clock⟩) (fun x hx => hs.1 x hx)
    have hmod : (es.push ⟨kE k, vE z, clock⟩).modify es.size (fun e => { e with val := vE v }) = es.push ⟨kE k, vE v, clock⟩ := by
      apply Array.ext_getElem?
      intro i
      rw [Array.getElem?_modify, Array.getElem?_push, Array.getElem?_push]
      by_cases e : i = es.size
      · simp [e]
      · have : ¬ es.size = i := fun h => e h.symm
        simp [e, this]
    have key : ∀ x : Value, ∀ y ∈ (es.push ⟨kE k, x, clock⟩).toList, IsKey d y.key := by
      intro x y hy
      simp only [Array.toList_push, List.mem_append, List.mem_singleton] at hy
      rcases hy with hy | rfl
      · exact hks y hy
      · exact K.key k
    refine ⟨clock, _, _, ?_, ?_, ⟨_, _, c2, stamped_push hs h2, key _, ?_⟩, ⟨_, _, d2, stamped_push hs h2, key _, ?_⟩, c1, d1⟩
    · simp [Instr.mapEntry, run_underlying ht, MapKept.run_getObj_map hb, run_checkKey hd (K.key k), run_findKey hd h1, hz, run_setObj_map _ hb, Result.andThen, setBlock, goInt]
    · simp only [Instr.entryStore, Sem.run_bind, MapKept.run_getObj_map c2, Result.andThen]
      simp only at hfi
      have ha : (asInt (.int .i64 (clock : Int))).run P (setBlock w b (.map (es.push ⟨kE k, vE z, clock⟩) (clock + 1))) = .ok (clock : Int) (setBlock w b (.map (es.push ⟨kE k, vE z, clock⟩) (clock + 1))) := rfl
      rw [ha]
      simp only [hfi]
      rw [run_setObj_map _ c2, hmod]; rfl
    · rw [Array.toList_push, List.map_append, hl]; simp [mEnc]
    · rw [Array.toList_push, List.map_append, hl]; simp [mEnc]
  · exact absurd rfl (hk _ (List.mem_of_getElem? h5))
theorem Mem.entryPut [DecidableEq α] (h : Mem w0 cs w) (i : Nat) (hi : cs[i]? = some (mapC b d kE vE L)) (K : KeyEnc d kE) (ht : P.underlying t = some (.map kt et)) (hd : P.underlying kt = some d) {z : β} (hz : ∀ w, (zeroValue et).run P w = .ok (vE z) w) {k : α} (hk : ∀ p ∈ L, p.1 ≠ k) (v : β) :
    ∃ (st : Int) (w1 w2 : World), (Instr.mapEntry t (.map (some b)) (kE k)).run P w = .ok (.tuple #[vE z, .int .i64 st]) w1 ∧ (Instr.entryStore t (.map (some b)) (.int .i64 st) (vE v)).run P w1 = .ok () w2 ∧ Mem w0 (cs.set i (mapC b d kE vE (L ++ [(k, z)]))) w1 ∧ Mem w0 (cs.set i (mapC b d kE vE (L ++ [(k, v)]))) w2 := by
  obtain ⟨st, w1, w2, h1, h2, h3, h4, h5, h6⟩ := (h.map' i hi).entryPut K ht hd hz hk v
  have m1 := h.mapSet i hi h3 h5
  have hil := (List.getElem?_eq_some_iff.1 hi).1
  have m2 := m1.mapSet i (by rw [List.getElem?_set_self hil]) h4 h6
  rw [List.set_set] at m2
  exact ⟨st, w1, w2, h1, h2, m1, m2⟩
end
end Go.Proofs.Ythphonkiolmkiaa
/- Layer 14 in plain Lean: what a failure leaves. No program in sight. -/
set_option linter.unusedVariables false
set_option linter.unusedSimpArgs false
namespace Go.Proofs.Ythphonkiolmkiaa
open Go.RowKit

def leftCuts (fl : List Fl) : Dir → List Int → List Int
  | [], l => l
  | p :: D, l => leftCuts fl D (leftOfF (flAt fl p.2) l).2
theorem leftAll_snoc (fl : List Fl) (D : Dir) (p : ByteArray × Nat) (l : List Int) : leftAll fl (D ++ [p]) l = leftAll fl D l ++ [(leftOfF (flAt fl p.2) (leftCuts fl D l)).1] := by
  induction D generalizing l with
  | nil => rfl
  | cons q D ih => simp only [List.cons_append, leftAll, leftCuts, ih]
theorem leftCuts_snoc (fl : List Fl) (D : Dir) (p : ByteArray × Nat) (l : List Int) : leftCuts fl (D ++ [p]) l = (leftOfF (flAt fl p.2) (leftCuts fl D l)).2 := by
  induction D generalizing l with
  | nil => rfl
  | cons q D ih => simp only [List.cons_append, leftCuts, ih]
theorem leftAll_len (fl : List Fl) (D : Dir) (l : List Int) : (leftAll fl D l).length = D.length := by
  induction D generalizing l with
  | nil => rfl
  | cons q D ih => simp only [leftAll, List.length_cons, ih]
theorem takeN_mem {many : Nat} {l : List Int} {a : Int} (h : a ∈ (takeN many l).2) : a ∈ l := by
  cases l with
  | nil => exact h
  | cons y l => exact List.mem_cons_of_mem _ h
theorem leftOfF_mem {x : Fl} {l : List Int} {a : Int} (h : a ∈ (leftOfF x l).2) : a ∈ l := by
  unfold leftOfF at h
  simp only at h
  split at h
  · exact takeN_mem h
  · split at h
    · exact takeN_mem h
    · exact takeN_mem (takeN_mem h)
theorem leftCuts_mem {fl : List Fl} {D : Dir} {l : List Int} {a : Int} (h : a ∈ leftCuts fl D l) : a ∈ l := by
  induction D generalizing l with
  | nil => exact h
  | cons q D ih => exact leftOfF_mem (ih h)
theorem torn_len {s : List UInt8} {c : Chg} {m : Nat} (hc : ChOk s c) (hs : s.length ≤ M0) (hm : m ≤ c.b.length) : (torn s c m).length ≤ M0 := by
  have h1 := hc.end_
  have h2 : (if c.off + m < s.length then c.off + m - (c.off + m) % 512 else c.off + m) ≤ c.off + m := by split <;> omega
  unfold torn
  generalize (if c.off + m < s.length then c.off + m - (c.off + m) % 512 else c.off + m) = e at h2 ⊢
  by_cases h : c.off < e
  · simp only [h, if_true]
    refine chDo_len ⟨hc.off, ?_, fun h => Bool.noConfusion h⟩ hs
    show c.off + (c.b.take (e - c.off)).length ≤ M0
    rw [List.length_take]
    omega
  · simp only [h, if_false]
    exact hs
theorem leftOfF_len {x : Fl} (hx : FlOk x) (l : List Int) : (leftOfF x l).1.length ≤ M0 := by
  have h0 := rowOk_len (rowOk_take hx.row (takeN (x.row.length + 1) l).1) hx.sure
  unfold leftOfF
  simp only
  split
  · exact h0
  · rename_i c hc
    split
    · exact h0
    · have := takeN_lt (many := c.b.length + 1) (by omega) (takeN (x.row.length + 1) l).2
      exact torn_len (foldDo_ok hx hc).1 h0 (by omega)
theorem leftAll_ok {fl : List Fl} {D : Dir} (h : ∀ p ∈ D, FlOk (flAt fl p.2)) (l : List Int) : ∀ b ∈ leftAll fl D l, b.length ≤ M0 := by
  induction D generalizing l with
  | nil => intro b hb; cases hb
  | cons q D ih =>
    intro b hb
    rcases List.mem_cons.1 hb with rfl | hb
    · exact leftOfF_len (h q (by simp)) l
    · exact ih (fun p hp => h p (List.mem_cons_of_mem _ hp)) _ b hb
theorem failDir_in {S : Fs} (h : FsOk S) (l : List Int) : DirIn S.fl.length (failDir S l) := movesOk_in (movesOk_take h.moves _) h.sure
theorem flAt_ok {S : Fs} (h : FsOk S) {n : Nat} (h1 : 1 ≤ n) (h2 : n ≤ S.fl.length) : S.fl[n - 1]? = some (flAt S.fl n) ∧ FlOk (flAt S.fl n) := by
  have hl : n - 1 < S.fl.length := by omega
  have e : flAt S.fl n = S.fl[n - 1] := by unfold flAt; simp [hl]
  rw [e]
  exact ⟨List.getElem?_eq_getElem hl, h.files _ (List.getElem_mem hl)⟩
def numbered (ns : List ByteArray) : Dir := ns.zipIdx.map (fun p => (p.1, p.2 + 1))
theorem numbered_snoc (ns : List ByteArray) (s : ByteArray) : numbered (ns ++ [s]) = numbered ns ++ [(s, ns.length + 1)] := by
  unfold numbered
  rw [List.zipIdx_append, List.map_append]; simp
theorem numbered_names (ns : List ByteArray) : (numbered ns).map (·.1) = ns := by
  unfold numbered
  rw [List.map_map]
  show ns.zipIdx.map (fun p => p.1) = ns
  exact List.zipIdx_map_fst 0 ns
theorem numbered_len (ns : List ByteArray) : (numbered ns).length = ns.length := by unfold numbered; simp
theorem mkFs_snoc (room : Nat) (bs : List (List UInt8)) (ns : List ByteArray) (b : List UInt8) (s : ByteArray) :
    mkFs room (bs ++ [b]) (ns ++ [s]) = { mkFs room bs ns with fl := (mkFs room bs ns).fl ++ [⟨b, b, []⟩], sure := (mkFs room bs ns).sure ++ [(s, ns.length + 1)], seen := (mkFs room bs ns).seen ++ [(s, ns.length + 1)] } := by
  have h := numbered_snoc ns s
  unfold numbered at h
  unfold mkFs
  simp only [List.map_append, h]
  rfl
theorem numbered_in {ns : List ByteArray} {n : Nat} (hl : ns.length = n) (h64 : ns.length ≤ 64) (hs : ns.Pairwise (fun x y => sLt x y = true)) : DirIn n (numbered ns) := by
  refine ⟨?_, by rw [numbered_len]; exact h64, fun p hp => ?_⟩
  · unfold DirOk
    have h : (numbered ns).map (·.1) = ns := numbered_names ns
    rw [← h, List.pairwise_map] at hs
    exact hs
  · unfold numbered at hp
    obtain ⟨q, hq, rfl⟩ := List.mem_map.1 hp
    have := List.snd_lt_of_mem_zipIdx hq
    simp only
    omega
theorem mkFs_ok {room : Nat} {bs : List (List UInt8)} {ns : List ByteArray} (hr : room ≤ M0) (hb : ∀ b ∈ bs, b.length ≤ M0) (hl : ns.length = bs.length) (h64 : ns.length ≤ 64) (hs : ns.Pairwise (fun x y => sLt x y = true)) : FsOk (mkFs room bs ns) := by
  have hfl : (mkFs room bs ns).fl.length = bs.length := by simp [mkFs]
  have hin : DirIn (mkFs room bs ns).fl.length (numbered ns) := by rw [hfl]; exact numbered_in hl h64 hs
  refine ⟨hr, fun x hx => ?_, hin, ?_, Nat.le_refl _, fun x hx => ?_, by rw [hfl]; show bs.length ≤ 0 + 64; omega, by show (0 : Nat) < _; omega⟩
  · obtain ⟨b, hbm, rfl⟩ := List.mem_map.1 hx
    exact ⟨hb b hbm, rfl⟩
  · exact rfl
  · obtain ⟨b, hbm, rfl⟩ := List.mem_map.1 hx
    exact Nat.le_refl _
theorem fail_ok {S : Fs} (h : FsOk S) (l : List Int) : FsOk (fsFail S l) := by
  have hin := failDir_in h l
  refine mkFs_ok h.room (leftAll_ok (fun p hp => (flAt_ok h (hin.pos p hp).1 (hin.pos p hp).2).2) _) (by rw [leftAll_len]; simp [dNames]) (by have := hin.len; simpa [dNames] using this) ?_
  unfold dNames
  rw [List.pairwise_map]
  exact hin.ok
/-! ### a file more on a disk that is made -/
def brings (k : Nat) : Nat → List Chunk → List Chunk
  | 0, cs => cs
  | n + 1, cs => brings k n (bring k cs)
theorem Mem.brings {w0 w : World} {cs : List Chunk} (h : Mem w0 cs w) (k n : Nat) : Mem w0 (brings k n cs) w := by
  induction n generalizing cs with
  | zero => exact h
  | succ n ih => exact ih (h.bring k)
theorem swap_parts (A B cs : List Chunk) : (A ++ (B ++ cs)).Perm (B ++ (A ++ cs)) := by
  rw [← List.append_assoc, ← List.append_assoc]
  exact List.perm_append_comm.append_right cs
theorem Mem.back17 {w0 w : World} {cs : List Chunk} {a b c g p1 p2 p3 p4 p5 p6 t d q1 q2 q3 q4 q5 q6 : Chunk} (h : Mem w0 (a :: b :: c :: g :: p1 :: p2 :: p3 :: p4 :: p5 :: p6 :: t :: d :: q1 :: q2 :: q3 :: q4 :: q5 :: q6 :: cs) w) :
    Mem w0 (c :: b :: a :: q1 :: q2 :: q3 :: q4 :: q5 :: q6 :: g :: p1 :: p2 :: p3 :: p4 :: p5 :: p6 :: t :: d :: cs) w :=
  h.perm (List.Perm.append (l₁ := [a, b, c]) (l₂ := [c, b, a]) (List.reverse_perm [c, b, a]) (swap_parts [g, p1, p2, p3, p4, p5, p6, t, d] [q1, q2, q3, q4, q5, q6] cs))
theorem Mem.back14 {w0 w : World} {cs : List Chunk} {g p1 p2 p3 p4 p5 p6 t d q1 q2 q3 q4 q5 q6 : Chunk} (h : Mem w0 (q1 :: q2 :: q3 :: q4 :: q5 :: q6 :: g :: p1 :: p2 :: p3 :: p4 :: p5 :: p6 :: t :: d :: cs) w) :
    Mem w0 (g :: p1 :: p2 :: p3 :: p4 :: p5 :: p6 :: t :: d :: q1 :: q2 :: q3 :: q4 :: q5 :: q6 :: cs) w :=
  h.perm (swap_parts [q1, q2, q3, q4, q5, q6] [g, p1, p2, p3, p4, p5, p6, t, d] cs)
theorem fit_add {R : FsR} {S : Fs} (h : FsFit R S) (b0 : Nat) (x : Fl) (s : ByteArray) (k : Nat) :
    FsFit ⟨R.fm, R.sm, R.nm, R.v, mPut R.Lf (S.fl.length + 1) b0, R.Ls ++ [(s, k)], R.Ln ++ [(s, k)], R.bs ++ [b0]⟩ { S with fl := S.fl ++ [x], sure := S.sure ++ [(s, k)], seen := S.seen ++ [(s, k)] } :=
  ⟨h.sure.append_right _, h.seen.append_right _, (fit_new h b0 x).nd, (fit_new h b0 x).files, (fit_new h b0 x).len⟩
theorem fs_add {p b0 n c c2 k u : Nat} {A A2 : Option Addr} {b : List UInt8} {s : ByteArray} {R : FsR} {S : Fs} {w0 w : World} {cs : List Chunk} (hf : FsFit R S) (hn : b.length = n)
    (M : Mem w0 (row 5 1 (.slice A n c) n (b.map bv) :: row 5 1 (.slice A2 n c2) n (b.map bv) :: blk b0 85 #[.slice A n c, .slice A2 n c2, .slice none 0 0] :: blk p 76 (fsCells R S.room u (S.fl.length + 1) S.acts S.fuse S.dead) :: mapC R.fm (.int .i64) nE pE (mPut R.Lf (S.fl.length + 1) b0) :: dirC R.sm (R.Ls ++ [(s, k)]) :: dirC R.nm (R.Ln ++ [(s, k)]) :: row 88 4 R.v S.row.length (S.row.flatMap mvv) :: tog (filesL R.bs S.fl) :: cs) w) :
    Mem w0 (fsL p ⟨R.fm, R.sm, R.nm, R.v, mPut R.Lf (S.fl.length + 1) b0, R.Ls ++ [(s, k)], R.Ln ++ [(s, k)], R.bs ++ [b0]⟩ { S with fl := S.fl ++ [⟨b, b, []⟩], sure := S.sure ++ [(s, k)], seen := S.seen ++ [(s, k)] } u ++ cs) w := by
  subst hn
  have hc1 : b.length ≤ c := by obtain ⟨_, _, e, h⟩ := (M.app 0 rfl).slice; cases e; exact h
  have hc2 : b.length ≤ c2 := by obtain ⟨_, _, e, h⟩ := (M.app 1 rfl).slice; cases e; exact h
  have M1 := ((((M.noPool.bring 1).sink).bring 1).sink)
  have M2 := (M1.nilRow 93 3)
  have M3 := Mem.unfile (b := b0) (R := ⟨A, c, A2, c2, .slice none 0 0, [], _⟩) (x := ⟨b, b, []⟩) (M2.bring 2) ⟨.inl (.inr ⟨rfl, rfl⟩), .inr ⟨rfl, rfl⟩, hc1, hc2, rfl, fun q hq => by cases hq⟩
  have M4 := (Mem.togAdd (M3.bring 6)).away 5
  rw [← filesL_snoc hf.len] at M4
  unfold fsL
  have e : (S.fl ++ [(⟨b, b, []⟩ : Fl)]).length = S.fl.length + 1 := by simp
  simp only [e]
  exact M4
theorem fs_leftAt {g p n bb u : Nat} {K ds : List Chunk} {l : List Int} {V : Value} {R : FsR} {S : Fs} {x : Fl} {w0 w : World} (h : Mem w0 (blk g 24 #[V] :: (fsL p R S u ++ ds)) w) (hV : Cuts w0 K l V) (hK : ∀ v, Mem w0 (fsL p R S u ++ ds) v → Mem w0 K v) (hb : R.bs[n]? = some bb) (hx : S.fl[n]? = some x) (ho : FlOk x) (hrow : x.row.length ≤ 1000000000) (hi : ∀ a ∈ l, -9223372036854775808 ≤ a ∧ a ≤ 9223372036854775807) :
    Calls Try.prog 58 #[pE bb, takeV g] w (fun en w' => ∃ A c V', en = .returned (.slice A (leftOfF x l).1.length c) ∧ Cuts w0 K (leftOfF x l).2 V' ∧ Mem w0 (row 5 1 (.slice A (leftOfF x l).1.length c) (leftOfF x l).1.length ((leftOfF x l).1.map bv) :: blk g 24 #[V'] :: (fsL p R S u ++ ds)) w') := by
  have hil := (List.getElem?_eq_some_iff.1 (filesL_at hb hx)).1
  have he : (filesL R.bs S.fl).set n (fileC bb x) = filesL R.bs S.fl := by
    rw [filesL_set hb]
    congr 1
    have h2 := (List.getElem?_eq_some_iff.1 hx).1
    rw [← (List.getElem?_eq_some_iff.1 hx).2, List.set_getElem_self]
  have M1 := (((h.bring 6).pick n (filesL_at hb hx)).bring 2)
  refine (fl_left M1 hV (fun v m => hK v ?_) ho hrow hi).mono ?_
  · have m2 := (Mem.unpick m hil).away 5
    rw [he] at m2
    exact m2
  · rintro en w' ⟨A, c, V', rfl, hV', M2⟩
    refine ⟨A, c, V', rfl, hV', ?_⟩
    have m3 := (Mem.unpick ((M2.bring 3).bring 3) hil).away 7
    rw [he] at m3
    exact m3
end Go.Proofs.Ythphonkiolmkiaa
/- Layer 14 walked: Fail. -/
set_option linter.unusedVariables false
set_option linter.unusedSimpArgs false
namespace Go.Proofs.Ythphonkiolmkiaa
open Go.RowKit
set_option maxRecDepth 100000
set_option maxHeartbeats 8000000

theorem fs_Fail {p : Nat} {S : Fs} {A : Option Addr} {c : Nat} {l : List Int} {w0 w : World} {cs : List Chunk} (h : Mem w0 (fsC p S :: cs) w) (hr : ∀ v, Mem w0 (fsC p S :: cs) v → Rd v A (l.map iE)) (hlc : l.length ≤ c) (hi : ∀ a ∈ l, -9223372036854775808 ≤ a ∧ a ≤ 9223372036854775807) (ha : S.acts < 1000000000) :
    Calls Try.prog 21 #[pE p, .slice A l.length c] w (fun en w' => ∃ q, en = .returned (.tuple #[pE q, nE 0]) ∧ Mem w0 (fsC q (fsFail S l) :: fsC p S :: cs) w') := by
  obtain ⟨R, hf, ho, M⟩ := h.fs
  have HF := Lib.hid (And.intro hf (And.intro ho (And.intro hi ha)))
  have HV := Lib.hid (show Cuts w0 (fsC p S :: cs) l (.slice A l.length c) from ⟨A, c, rfl, hlc, hr⟩)
  have HKB := Lib.hid (show ∀ v, Mem w0 (fsL p R S S.used ++ cs) v → Mem w0 (fsC p S :: cs) v from fun v m => m.unfs hf ho)
  obtain ⟨K, hK⟩ : ∃ K, K = fsC p S :: cs := ⟨_, rfl⟩
  have HKE := Lib.hid hK
  rw [← hK] at HV HKB
  have HM := Lib.hid (M.alloc (.cells #[.slice A l.length c] 24))
  have hmf : ∀ (fn : Fn) (first cap : Array Value) (w : World), (Instr.makeFunc fn first cap).run Try.prog w = .ok (.func fn first cap) w := fun _ _ _ _ => rfl
  obtain ⟨Av, cv, hv, hcv⟩ : ∃ A c, R.v = .slice A S.row.length c ∧ S.row.length ≤ c := (M.app 4 rfl).slice
  have HRV := Lib.hid hv
  have HHR := Lib.hid hr
  clear h hr hf ho hi hK M hv hlc
  go_enter Try.func21, Try.ntmps21
  go_upto_region 1 with (fail)
  generalize w.alloc (.cells #[.slice A l.length c] 24) = v at HM ⊢
  generalize w.heap.size = g at HM ⊢
  have c0 : v.cell? ⟨p, 0, none⟩ = some (.bool true) := (HM.out.ob 1 rfl).cell 0 rfl
  have c5 : v.cell? ⟨p, 5, none⟩ = some (.map (some R.sm)) := (HM.out.ob 1 rfl).cell 5 rfl
  go_wp2_with fail
  refine (dir_twin (HM.out.bring 3) (HF.out.2.1.sure.ok.nd.perm HF.out.1.sure.symm)).mono ?_
  rintro en w1 ⟨bd, L0, rfl, hp0, M1⟩
  have HM1 := Lib.hid (show Mem w0 (blk g 24 #[.slice A l.length c] :: dirC bd L0 :: (fsL p R S S.used ++ cs)) w1 from ((M1.bring 1).away 4).bring 1)
  have HP0 := Lib.hid (hp0.trans HF.out.1.sure)
  clear M1 hp0 HM c0 c5
  go_upto_region 5 with (fail)
  have hrl : S.row.length ≤ 1000000000 := by have := HF.out.2.1.rowl; omega
  have HTK := Lib.hid (fs_take HM1.out.drew HV.out (fun v m => HKB.out v m.drop) (many := S.row.length + 1) (by omega) (by omega) HF.out.2.2.1)
  have hkl := takeN_lt (many := S.row.length + 1) (by omega) l
  obtain ⟨D, hD⟩ : ∃ D, D = failDir S l := ⟨_, rfl⟩
  obtain ⟨k, hk⟩ : ∃ k, k = (takeN (S.row.length + 1) l).1 := ⟨_, rfl⟩
  obtain ⟨l1, hl1⟩ : ∃ l1, l1 = (takeN (S.row.length + 1) l).2 := ⟨_, rfl⟩
  have HRES := Lib.hid (show fsFail S l = mkFs S.room (leftAll S.fl D l1) (dNames D) by rw [hD, hl1]; rfl)
  have HIL := Lib.hid (show ∀ a ∈ l1, -9223372036854775808 ≤ a ∧ a ≤ 9223372036854775807 from fun a ha => HF.out.2.2.1 a (takeN_mem (by rw [← hl1]; exact ha)))
  have HD := Lib.hid (And.intro (show DirIn S.fl.length D by rw [hD]; exact failDir_in HF.out.2.1 l) (show D = (S.row.take k).foldl dirDo S.sure by rw [hD, hk]; rfl))
  rw [← hk] at hkl HTK
  rw [← hl1] at HTK
  clear hk hl1 hD
  have c7 : w1.drew.cell? ⟨p, 7, none⟩ = some (.slice Av S.row.length cv) := by rw [← HRV.out]; exact (HM1.out.drew.ob 2 rfl).cell 7 rfl
  have HW1 := Lib.hid (wrap_small (a := (S.row.length : Int) + 1) (by omega) (by omega))
  have hkr : k ≤ S.row.length := by omega
  have HS1 := Lib.hid (fun v => cut_h (P := Try.prog) 74 88 4 Try.underlying74 (by kernel_rfl) Av S.row.length cv k (by omega) v)
  go_cut [42, 43, 44] (fun t42 t43 t44 wx => t42 = .slice Av k cv ∧ t43 = .int .i64 (k : Int) ∧ t44 = .int .i64 0 ∧ ∃ V1, Hid (Cuts w0 K l1 V1) ∧ Hid (Mem w0 (blk g 24 #[V1] :: dirC bd L0 :: (fsL p R S S.used ++ cs)) wx))
  case first =>
    have hk0 : (0 : Int) ≤ (k : Int) := by omega
    have hkc : (k : Int) ≤ (cv : Int) := by omega
    obtain ⟨ww1, wx1⟩ := HW1.out
    go_region_held3 (fun w' => w'.cell? ⟨p, 7, none⟩ = some (.slice Av S.row.length cv))
      (first | exact c7 | exact q7)
      (first | (go_at_call 55; refine HTK.out.mono ?_; rintro e w5 ⟨rfl, V1, hV1, M5⟩; have q7 : w5.cell? ⟨p, 7, none⟩ = some (.slice Av S.row.length cv) := by { rw [← HRV.out]; exact (M5.ob 2 rfl).cell 7 rfl }))
    all_goals
      go_wp2_with fail
      go_meet
      case rel => exact ⟨rfl, rfl, rfl, V1, hV1, M5⟩
  case rest =>
    obtain ⟨rfl, rfl, rfl, V1, HV1, HM2⟩ := hcut
    clear HTK HM1 c7 HW1 HS1 HV
    go_wp2_with fail
    go_loopw [9, 44] (fun _ v44 wr => ∃ (j : Nat) (O : Dir), v44 = .int .i64 j ∧ j ≤ k ∧ O.Perm ((S.row.take j).foldl dirDo S.sure) ∧ Hid (Mem w0 (blk g 24 #[V1] :: dirC bd O :: (fsL p R S S.used ++ cs)) wr)) (fun _ v44 _ => k - (intOf v44).toNat)
    case atStart => exact ⟨0, L0, rfl, Nat.zero_le _, HP0.out, HM2.out⟩
    case round =>
      obtain ⟨j, O, rfl, hj, hO, HS⟩ := hrel
      have HOP := Lib.hid hO
      clear hO HM2
      by_cases hlt : j < k
      case pos =>
        have hxl : j < S.row.length := by omega
        obtain ⟨m, hm⟩ : ∃ m, S.row[j]? = some m := ⟨_, List.getElem?_eq_getElem hxl⟩
        have happ := HS.out.app 6 rfl
        rw [HRV.out] at happ
        obtain ⟨bb, o, rfl, hcell⟩ := Rd.rec (f := mvv) (k := 4) (fun _ => rfl) happ.rd.1 hm (by omega)
        have k0 : wr.cell? ⟨bb, o + j * 4, none⟩ = some (nE m.kind) := hcell 0 _ rfl
        have k1 : wr.cell? ⟨bb, o + j * 4 + 1, none⟩ = some (sE m.src) := hcell 1 _ rfl
        have k2 : wr.cell? ⟨bb, o + j * 4 + 2, none⟩ = some (sE m.dst) := hcell 2 _ rfl
        have k3 : wr.cell? ⟨bb, o + j * 4 + 3, none⟩ = some (nE m.file) := hcell 3 _ rfl
        have HM3 := Lib.hid (HS.out.alloc (.cells #[nE m.kind, sE m.src, sE m.dst, nE m.file] 88))
        have hin := movesOk_in (movesOk_take HF.out.2.1.moves j) HF.out.2.1.sure
        have HDO := Lib.hid (fun (v : World) (ds : List Chunk) (h : Mem w0 (dirC bd O :: ds) v) => move_do m h HOP.out hin.ok (movesOk_at HF.out.2.1.moves hm))
        have HFO := Lib.hid (show (S.row.take (j + 1)).foldl dirDo S.sure = dirDo ((S.row.take j).foldl dirDo S.sure) m by rw [List.take_add_one, hm, List.foldl_append]; rfl)
        have hlt2 : (j : Int) < (k : Int) := by omega
        clear HS happ hcell hm hin
        go_wp2_with fail
        refine (HDO.out _ _ (HM3.out.bring 2)).mono ?_
        rintro en w4 ⟨rfl, L', hL', M4⟩
        have HM4 := Lib.hid (show Mem w0 (blk g 24 #[V1] :: dirC bd L' :: (fsL p R S S.used ++ cs)) w4 from (((M4.bring 1).drop).bring 1))
        rw [← HFO.out] at hL'
        have HL := Lib.hid hL'
        clear M4 hL' HM3 HDO HOP k0 k1 k2 k3 HFO
        go_wp2_with fail
        go_roundw
        case rel => exact ⟨j + 1, L', rfl, hlt, HL.out, HM4.out⟩
        case measure => simp [intOf]; omega
      case neg =>
        obtain rfl : j = k := by omega
        have HOD := Lib.hid (show O.Perm D by rw [HD.out.2]; exact HOP.out)
        have c1 : wr.cell? ⟨p, 1, none⟩ = some (nE S.room) := (HS.out.ob 2 rfl).cell 1 rfl
        clear HOP hlt hj
        go_wp2_with fail
        refine (fs_New (S.room : Int) HS.out).mono ?_
        have hroom : S.room ≤ 1048576 := HF.out.2.1.room
        rintro en w3 (⟨h1, _⟩ | ⟨_, q, rfl, M3⟩)
        · omega
        rw [Int.toNat_natCast] at M3
        obtain ⟨R0, hf0, ho0, M3⟩ := M3.fs
        have HF0 := Lib.hid hf0
        have HM3 := Lib.hid (show Mem w0 (dirC bd O :: blk g 24 #[V1] :: (fsL q R0 (newFs S.room) 0 ++ (fsL p R S S.used ++ cs))) w3 from ((M3.bring 7).bring 7).bring 1)
        clear M3 hf0 ho0 HS c1 HP0
        go_wp2_with fail
        refine (dir_names (D := D) HM3.out HD.out.1.ok HOD.out HD.out.1.len).mono ?_
        rintro en w4 ⟨An, cn, rfl, M4⟩
        have HM4 := Lib.hid (show Mem w0 (blk g 24 #[V1] :: (fsL p R S S.used ++ (row 9 1 (.slice An D.length cn) D.length ((dNames D).map sE) :: dirC bd O :: (fsL q R0 (newFs S.room) 0 ++ cs)))) w4 from (M4.brings 14 6).bring 8)
        clear M4 HM3
        go_wp2_with fail
        go_loopw [13, 14, 63] (fun _ _ v63 wr => ∃ (i : Nat) (V : Value) (Ri : FsR), v63 = .int .i64 i ∧ i ≤ D.length ∧ Hid (Cuts w0 K (leftCuts S.fl (D.take i) l1) V) ∧ Hid (FsFit Ri (mkFs S.room (leftAll S.fl (D.take i) l1) (dNames (D.take i)))) ∧ Hid (Mem w0 (blk g 24 #[V] :: (fsL p R S S.used ++ (row 9 1 (.slice An D.length cn) D.length ((dNames D).map sE) :: dirC bd O :: (fsL q Ri (mkFs S.room (leftAll S.fl (D.take i) l1) (dNames (D.take i))) 0 ++ cs)))) wr)) (fun _ _ v63 _ => D.length - (intOf v63).toNat)
        case atStart => exact ⟨0, V1, R0, rfl, Nat.zero_le _, HV1, HF0, HM4⟩
        case round =>
          obtain ⟨i, V, Ri, rfl, hi, HV, HFI, HS⟩ := hrel
          clear HM4 HF0 HV1
          by_cases hlt : i < D.length
          case pos =>
            obtain ⟨⟨s, n⟩, hpi⟩ : ∃ pr, D[i]? = some pr := ⟨_, List.getElem?_eq_getElem hlt⟩
            have hpos := HD.out.1.pos _ (List.mem_of_getElem? hpi)
            simp only at hpos
            obtain ⟨hx, hxo⟩ := flAt_ok HF.out.2.1 hpos.1 hpos.2
            obtain ⟨x, hxx⟩ : ∃ x, x = flAt S.fl n := ⟨_, rfl⟩
            rw [← hxx] at hx hxo
            obtain ⟨bb, hb⟩ : ∃ bb, R.bs[n - 1]? = some bb := ⟨_, List.getElem?_eq_getElem (by rw [HF.out.1.len]; omega)⟩
            have hmg := (mGet_some HF.out.1.nd).2 ((HF.out.1.files n bb).2 ⟨hpos.1, hb⟩)
            have hmd : mGet O s = some n := by
              rw [mGet_perm (HD.out.1.ok.nd.perm HOD.out.symm) HOD.out s]
              exact mGet_at HD.out.1.ok.nd hpi
            have hfr := HF.out.2.1.frow x (List.mem_of_getElem? hx)
            have hac := HF.out.2.2.2
            have HLEFT := Lib.hid (fs_leftAt HS.out.drew HV.out (fun v m => HKB.out v (m.sub ((List.Sublist.refl _).append (.cons _ (.cons _ (List.sublist_append_right _ _)))))) hb hx hxo (by omega) (fun a ha => HIL.out a (leftCuts_mem ha)))
            obtain ⟨bst, ost, rfl, hst⟩ := Rd.get (HS.out.app 7 rfl).rd.1 (i := i) (x := s) (by simp [dNames, hpi])
            have c3 : wr.drew.cell? ⟨p, 3, none⟩ = some (.map (some R.fm)) := (HS.out.drew.ob 1 rfl).cell 3 rfl
            have d3 : wr.cell? ⟨p, 3, none⟩ = some (.map (some R.fm)) := (HS.out.ob 1 rfl).cell 3 rfl
            have l1' := dir_get1 (HS.out.drew.map' 8 rfl) s
            have l2' := file_get1 (HS.out.drew.map' 2 rfl) hmg
            have m1' := dir_get1 (HS.out.map' 8 rfl) s
            have m2' := file_get1 (HS.out.map' 2 rfl) hmg
            rw [hmd] at l1' m1'
            simp only [Option.getD_some] at l1' m1'
            have hlt2 : (i : Int) < (D.length : Int) := by omega
            have hD64 : (D.length : Int) ≤ 64 := by have := HD.out.1.len; omega
            obtain ⟨r, hr⟩ : ∃ r, r = leftOfF x (leftCuts S.fl (D.take i) l1) := ⟨_, rfl⟩
            have HNX := Lib.hid (show D.take (i + 1) = D.take i ++ [(s, n)] by rw [List.take_add_one, hpi]; rfl)
            have HRR := Lib.hid (show leftAll S.fl (D.take (i + 1)) l1 = leftAll S.fl (D.take i) l1 ++ [r.1] ∧ leftCuts S.fl (D.take (i + 1)) l1 = r.2 by
              rw [HNX.out, leftAll_snoc, leftCuts_snoc, hr, hxx]; exact ⟨rfl, rfl⟩)
            have HRL := Lib.hid (show r.1.length ≤ 1048576 by rw [hr]; exact leftOfF_len hxo _)
            rw [← hr] at HLEFT
            clear hx hxo hb hmg hmd hfr hac hxx hr hpos hi
            go_upto_region 14 with (fail)
            go_still_tail 9, (by kernel_rfl)
            change wpList _ _ _ _ _ wr.drew
            clear c3 d3 l1' l2' m1' m2' hst HS
            go_wp2_with fail
            refine HLEFT.out.mono ?_
            rintro en w5 ⟨Ab, cb, V2, rfl, hV2, M5⟩
            have HV2 := Lib.hid hV2
            have HM5 := Lib.hid M5
            clear hV2 M5 HLEFT
            obtain ⟨b, hb⟩ : ∃ b, b = r.1 := ⟨_, rfl⟩
            rw [← hb] at HM5 HRR HRL ⊢
            clear hb
            obtain ⟨Si, hSi⟩ : ∃ Si, Si = mkFs S.room (leftAll S.fl (D.take i) l1) (dNames (D.take i)) := ⟨_, rfl⟩
            rw [← hSi] at HM5 HFI
            have hfli : Si.fl.length = i := by rw [hSi]; simp [mkFs, leftAll_len]; omega
            have HSI := Lib.hid (And.intro hSi hfli)
            have hbl := HRL.out
            have c4 : w5.cell? ⟨q, 4, none⟩ = some (nE i) := by
              have h : w5.cell? ⟨q, 4, none⟩ = some (nE Si.fl.length) := (HM5.out.ob 10 rfl).cell 4 rfl
              rw [hfli] at h; exact h
            have f4 : w5.frozen? ⟨q, 4, none⟩ = false := (HM5.out.ob 10 rfl).free 4
            go_upto_region 16 with (fail)
            have HM6 := Lib.hid (show Mem w0 (row 5 1 (.slice Ab b.length cb) b.length (b.map bv) :: blk g 24 #[V2] :: (fsL p R S S.used ++ (row 9 1 (.slice (some ⟨bst, ost, none⟩) D.length cn) D.length ((dNames D).map sE) :: dirC bd O :: blk q 76 (fsCells Ri Si.room 0 (i + 1) Si.acts Si.fuse Si.dead) :: mapC Ri.fm (.int .i64) nE pE Ri.Lf :: dirC Ri.sm Ri.Ls :: dirC Ri.nm Ri.Ln :: row 88 4 Ri.v Si.row.length (Si.row.flatMap mvv) :: tog (filesL Ri.bs Si.fl) :: cs))) (w5.setCell ⟨q, 4, none⟩ (nE (i + 1))) from HM5.out.put 10 rfl 4 (nE (i + 1)))
            have hwe : w5.setCell ⟨q, 4, none⟩ (nE (i + 1)) = w5.setCell ⟨q, 4, none⟩ (.int .i64 ((i : Int) + 1)) := rfl
            rw [hwe] at HM6
            clear c4 f4 HM5 hSi hfli hwe
            generalize w5.setCell ⟨q, 4, none⟩ (.int .i64 ((i : Int) + 1)) = v6 at HM6 ⊢
            have HN := Lib.hid (App.nil v6.drew v6.drew.heap.size 5 1)
            have HRB := Lib.hid ((HM6.out.drew.app 0 rfl).rd.1)
            have k3 : v6.drew.cell? ⟨q, 3, none⟩ = some (.map (some Ri.fm)) := (HM6.out.drew.ob 10 rfl).cell 3 rfl
            have k4 : v6.drew.cell? ⟨q, 4, none⟩ = some (nE (i + 1)) := (HM6.out.drew.ob 10 rfl).cell 4 rfl
            go_cut [] (fun wx => ∃ (b0 : Nat) (A5 : Option Addr) (c5 : Nat), Hid (Mem w0 (blk b0 85 #[.slice Ab b.length cb, .slice A5 b.length c5, .slice none 0 0] :: row 5 1 (.slice A5 b.length c5) b.length (b.map bv) :: row 5 1 (.slice Ab b.length cb) b.length (b.map bv) :: blk g 24 #[V2] :: (fsL p R S S.used ++ (row 9 1 (.slice (some ⟨bst, ost, none⟩) D.length cn) D.length ((dNames D).map sE) :: dirC bd O :: blk q 76 (fsCells Ri Si.room 0 (i + 1) Si.acts Si.fuse Si.dead) :: mapC Ri.fm (.int .i64) nE pE (mPut Ri.Lf (i + 1) b0) :: dirC Ri.sm Ri.Ls :: dirC Ri.nm Ri.Ln :: row 88 4 Ri.v Si.row.length (Si.row.flatMap mvv) :: tog (filesL Ri.bs Si.fl) :: cs))) wx))
            case first =>
              go_region_held3 (fun w' => w'.cell? ⟨q, 3, none⟩ = some (.map (some Ri.fm)) ∧ w'.cell? ⟨q, 4, none⟩ = some (nE (i + 1)))
                (first | exact ⟨k3, k4⟩ | exact ⟨q3, q4⟩ | exact ⟨r3, r4⟩ | exact ⟨s3, s4⟩)
                (first | (refine step_row rfl _ _ 22 5 (.int .u8 0) 1 1 (by rfl) Try.underlying22 Try.infoU8 rfl (by decide) v6.drew.heap.size HN.out (by rfl) (by rfl) HRB.out (by simp) (bv_all b) (by omega) (by omega) (Nat.le_refl _) ?_; intro v5 w5 hown5 hgr5 hat5; obtain ⟨A5, c5, rfl, hcc5⟩ := hown5.slice; have M5 := HM6.out.drew.newRow ((Bl.refl _).grown hgr5 (by intro q hq; cases hq)) hown5; rw [List.nil_append, Nat.zero_add] at M5; have q3 : w5.cell? ⟨q, 3, none⟩ = some (.map (some Ri.fm)) := (M5.ob 11 rfl).cell 3 rfl; have q4 : w5.cell? ⟨q, 4, none⟩ = some (nE (i + 1)) := (M5.ob 11 rfl).cell 4 rfl; have M6 := M5.alloc (.cells #[.slice Ab b.length cb, .slice A5 b.length c5, .slice none 0 0] 85); have r3 : (w5.alloc (.cells #[.slice Ab b.length cb, .slice A5 b.length c5, .slice none 0 0] 85)).cell? ⟨q, 3, none⟩ = some (.map (some Ri.fm)) := (M6.ob 12 rfl).cell 3 rfl; have r4 : (w5.alloc (.cells #[.slice Ab b.length cb, .slice A5 b.length c5, .slice none 0 0] 85)).cell? ⟨q, 4, none⟩ = some (nE (i + 1)) := (M6.ob 12 rfl).cell 4 rfl; obtain ⟨w6, hr6, hm6, hc6, hs6⟩ := (M6.map' 13 rfl).update intEnc map_files_u int_u (i + 1) w5.heap.size; have M7 := M6.mapSet 13 rfl hm6 hc6; have s3 : w6.cell? ⟨q, 3, none⟩ = some (.map (some Ri.fm)) := (M7.ob 12 rfl).cell 3 rfl; have s4 : w6.cell? ⟨q, 4, none⟩ = some (nE (i + 1)) := (M7.ob 12 rfl).cell 4 rfl))
              all_goals
                go_wp2_with fail
                go_meet
                case rel => exact ⟨w5.heap.size, A5, c5, M7⟩
            case rest =>
              obtain ⟨b0, A5, c5, HM7⟩ := hcut
              clear HM6 HN HRB k3 k4
              have hnot : ∀ pr ∈ numbered (dNames (D.take i)), pr.1 ≠ s := by
                intro pr hpr e
                have h1 : pr.1 ∈ dNames (D.take i) := by rw [← numbered_names (dNames (D.take i))]; exact List.mem_map.2 ⟨pr, hpr, rfl⟩
                obtain ⟨z, hz, hz2⟩ := List.mem_map.1 h1
                obtain ⟨j2, hj2⟩ := List.getElem?_of_mem hz
                have hj3 : j2 < i := by have := (List.getElem?_eq_some_iff.1 hj2).1; rw [List.length_take] at this; omega
                rw [List.getElem?_take_of_lt hj3] at hj2
                have h3 := HD.out.1.ok.nd
                unfold KeysNd at h3
                rw [List.pairwise_iff_getElem] at h3
                have h4 := h3 j2 i (List.getElem?_eq_some_iff.1 hj2).1 (List.getElem?_eq_some_iff.1 hpi).1 hj3
                rw [(List.getElem?_eq_some_iff.1 hj2).2, (List.getElem?_eq_some_iff.1 hpi).2, hz2] at h4
                exact h4 e
              have hns : ∀ pr ∈ Ri.Ls, pr.1 ≠ s := fun pr hpr => hnot pr (by have h := HFI.out.sure.mem_iff.1 hpr; rw [HSI.out.1] at h; exact h)
              have hnn : ∀ pr ∈ Ri.Ln, pr.1 ≠ s := fun pr hpr => hnot pr (by have h := HFI.out.seen.mem_iff.1 hpr; rw [HSI.out.1] at h; exact h)
              obtain ⟨st1, wA, wB, hA1, hA2, MA, MB⟩ := HM7.out.drew.entryPut 14 rfl strEnc map_dir_u str_u zero_int hns (i + 1)
              obtain ⟨st2, wC, wD, hC1, hC2, MC, MD⟩ := MB.entryPut 15 rfl strEnc map_dir_u str_u zero_int hnn (i + 1)
              have k4 : wc.drew.cell? ⟨q, 4, none⟩ = some (nE (i + 1)) := (HM7.out.drew.ob 12 rfl).cell 4 rfl
              have k5 : wc.drew.cell? ⟨q, 5, none⟩ = some (.map (some Ri.sm)) := (HM7.out.drew.ob 12 rfl).cell 5 rfl
              have k6 : wc.drew.cell? ⟨q, 6, none⟩ = some (.map (some Ri.nm)) := (HM7.out.drew.ob 12 rfl).cell 6 rfl
              have a4 : wA.cell? ⟨q, 4, none⟩ = some (nE (i + 1)) := (MA.ob 12 rfl).cell 4 rfl
              have a5 : wA.cell? ⟨q, 5, none⟩ = some (.map (some Ri.sm)) := (MA.ob 12 rfl).cell 5 rfl
              have a6 : wA.cell? ⟨q, 6, none⟩ = some (.map (some Ri.nm)) := (MA.ob 12 rfl).cell 6 rfl
              have b4 : wB.cell? ⟨q, 4, none⟩ = some (nE (i + 1)) := (MB.ob 12 rfl).cell 4 rfl
              have b5 : wB.cell? ⟨q, 5, none⟩ = some (.map (some Ri.sm)) := (MB.ob 12 rfl).cell 5 rfl
              have b6 : wB.cell? ⟨q, 6, none⟩ = some (.map (some Ri.nm)) := (MB.ob 12 rfl).cell 6 rfl
              have e4 : wC.cell? ⟨q, 4, none⟩ = some (nE (i + 1)) := (MC.ob 12 rfl).cell 4 rfl
              have e5 : wC.cell? ⟨q, 5, none⟩ = some (.map (some Ri.sm)) := (MC.ob 12 rfl).cell 5 rfl
              have e6 : wC.cell? ⟨q, 6, none⟩ = some (.map (some Ri.nm)) := (MC.ob 12 rfl).cell 6 rfl
              have d4 : wD.cell? ⟨q, 4, none⟩ = some (nE (i + 1)) := (MD.ob 12 rfl).cell 4 rfl
              have d5 : wD.cell? ⟨q, 5, none⟩ = some (.map (some Ri.sm)) := (MD.ob 12 rfl).cell 5 rfl
              have d6 : wD.cell? ⟨q, 6, none⟩ = some (.map (some Ri.nm)) := (MD.ob 12 rfl).cell 6 rfl
              have HMD := Lib.hid (show Mem w0 (blk b0 85 #[.slice Ab b.length cb, .slice A5 b.length c5, .slice none 0 0] :: row 5 1 (.slice A5 b.length c5) b.length (b.map bv) :: row 5 1 (.slice Ab b.length cb) b.length (b.map bv) :: blk g 24 #[V2] :: (fsL p R S S.used ++ (row 9 1 (.slice (some ⟨bst, ost, none⟩) D.length cn) D.length ((dNames D).map sE) :: dirC bd O :: blk q 76 (fsCells Ri Si.room 0 (i + 1) Si.acts Si.fuse Si.dead) :: mapC Ri.fm (.int .i64) nE pE (mPut Ri.Lf (i + 1) b0) :: dirC Ri.sm (Ri.Ls ++ [(s, i + 1)]) :: dirC Ri.nm (Ri.Ln ++ [(s, i + 1)]) :: row 88 4 Ri.v Si.row.length (Si.row.flatMap mvv) :: tog (filesL Ri.bs Si.fl) :: cs))) wD from MD)
              clear MA MB MC MD hns hnn hnot hpi
              go_upto_region 17 with (fail)
              go_region_held3 (fun w' => w'.cell? ⟨q, 4, none⟩ = some (nE (i + 1)) ∧ w'.cell? ⟨q, 5, none⟩ = some (.map (some Ri.sm)) ∧ w'.cell? ⟨q, 6, none⟩ = some (.map (some Ri.nm)))
                (first | exact ⟨k4, k5, k6⟩ | exact ⟨a4, a5, a6⟩ | exact ⟨b4, b5, b6⟩ | exact ⟨e4, e5, e6⟩ | exact ⟨d4, d5, d6⟩)
                (first | fail)
              go_wp2_with fail
              go_roundw
              case rel =>
                have hnm : dNames (D.take (i + 1)) = dNames (D.take i) ++ [s] := by rw [HNX.out]; simp [dNames]
                have hnl : (dNames (D.take i)).length = i := by simp [dNames]; omega
                have HSN : mkFs S.room (leftAll S.fl (D.take (i + 1)) l1) (dNames (D.take (i + 1))) = { Si with fl := Si.fl ++ [⟨b, b, []⟩], sure := Si.sure ++ [(s, i + 1)], seen := Si.seen ++ [(s, i + 1)] } := by
                  rw [HRR.out.1, hnm, mkFs_snoc, ← HSI.out.1, hnl]
                have M8 := fs_add (p := q) (u := 0) (k := i + 1) (s := s) (n := b.length) (b := b) (b0 := b0) (cs := blk g 24 #[V2] :: (fsL p R S S.used ++ (row 9 1 (.slice (some ⟨bst, ost, none⟩) D.length cn) D.length ((dNames D).map sE) :: dirC bd O :: cs))) HFI.out rfl (by rw [HSI.out.2]; exact Mem.back17 HMD.out)
                refine ⟨i + 1, V2, ⟨Ri.fm, Ri.sm, Ri.nm, Ri.v, mPut Ri.Lf (Si.fl.length + 1) b0, Ri.Ls ++ [(s, i + 1)], Ri.Ln ++ [(s, i + 1)], Ri.bs ++ [b0]⟩, rfl, hlt, ?_, ?_, ?_⟩
                · rw [HRR.out.2]; exact HV2.out
                · rw [HSN]; exact fit_add HFI.out b0 _ s (i + 1)
                · rw [HSN]; exact Mem.back14 M8
              case measure => simp [intOf]; omega
          case neg =>
            obtain rfl : i = D.length := by omega
            rw [List.take_length] at HV HFI HS
            have hok := Lib.hid (fail_ok HF.out.2.1 l)
            rw [HRES.out] at hok
            have HC := Lib.hid (fs_count (cs := blk g 24 #[V] :: (fsL p R S S.used ++ (row 9 1 (.slice An D.length cn) D.length ((dNames D).map sE) :: dirC bd O :: cs))) (HS.out.brings 14 6) HFI.out hok.out.seen hok.out.files)
            clear HS hlt hi
            go_wp2_with fail
            refine HC.out.mono ?_
            rintro en w5 ⟨rfl, M5⟩
            have HM5 := Lib.hid M5
            clear M5 HC
            go_wp2_with fail
            go_ret2
            rw [HRES.out]
            have M6 := (Mem.unfs (cs := blk g 24 #[V] :: (fsL p R S S.used ++ (row 9 1 (.slice An D.length cn) D.length ((dNames D).map sE) :: dirC bd O :: cs))) HM5.out HFI.out hok.out)
            have M7 := Mem.unfs (cs := fsC q (mkFs S.room (leftAll S.fl D l1) (dNames D)) :: row 9 1 (.slice An D.length cn) D.length ((dNames D).map sE) :: dirC bd O :: cs) (((M6.bring 1).drop).away 6) HF.out.1 HF.out.2.1
            exact ⟨q, rfl, (((M7.bring 2).drop.bring 2).drop).bring 1⟩
end Go.Proofs.Ythphonkiolmkiaa
/- Layer 14, the laws: what the document tells of a failure. -/
set_option linter.unusedVariables false
set_option linter.unusedSimpArgs false
namespace Go.Proofs.Ythphonkiolmkiaa
open Go.RowKit
set_option maxRecDepth 100000
set_option maxHeartbeats 8000000

def wkA : ByteArray := ⟨#[97]⟩
def wk1 : Fs := (fsCreate (newFs 10) wkA).1
def wk2 : Fs := (fsAppend wk1 wkA [97, 98]).1
def wk3 : Fs := (fsSync wk2 wkA).1
def wk4 : Fs := (fsSyncDir wk3).1
def wk5 : Fs := (fsAppend wk4 wkA [99, 100]).1
def wk6 : Fs := fsFail wk5 [0, 0, 1]
theorem wk1_ok : (fsCreate (newFs 10) wkA).2 = 0 := by kernel_rfl
theorem wk2_ok : (fsAppend wk1 wkA [97, 98]).2 = 0 := by kernel_rfl
theorem wk3_ok : (fsSync wk2 wkA).2 = 0 := by kernel_rfl
theorem wk4_ok : (fsSyncDir wk3).2 = 0 := by kernel_rfl
theorem wk5_ok : (fsAppend wk4 wkA [99, 100]).2 = 0 := by kernel_rfl
theorem wk6_ok : fsRead wk6 wkA 0 9 = ([97, 98, 99], 0) := by kernel_rfl
theorem wk_acts : (newFs 10).acts < 1000000000 ∧ wk1.acts < 1000000000 ∧ wk2.acts < 1000000000 ∧ wk3.acts < 1000000000 ∧ wk4.acts < 1000000000 ∧ wk5.acts < 1000000000 := ⟨by exact of_decide_eq_true (by kernel_rfl), by exact of_decide_eq_true (by kernel_rfl), by exact of_decide_eq_true (by kernel_rfl), by exact of_decide_eq_true (by kernel_rfl), by exact of_decide_eq_true (by kernel_rfl), by exact of_decide_eq_true (by kernel_rfl)⟩
theorem wk_size : wkA.size ≤ 281474976710656 := by exact of_decide_eq_true (by kernel_rfl)
theorem Mem.rdBlk {w0 w : World} {cs : List Chunk} (h : Mem w0 cs w) (i : Nat) {g : Nat} {T : TypeId} {fr : Nat × Nat} {xs : Array Value} (hi : cs[i]? = some (Go.Proofs.Ythphonkiolmkiaa.blkO g (.cells xs T fr))) : Rd w (some ⟨g, 0, none⟩) xs.toList := by
  have h1 := rd_of_block (h.blkO i hi) 0 xs.toList.length
  rw [List.drop_zero, List.take_length] at h1
  exact h1
theorem works_calls {w0 w : World} {cs : List Chunk} (h : Mem w0 cs w) :
    Calls Try.prog 15 #[] w (fun en w' => en = .returned (.bool true) ∧ Mem w0 cs w') := by
  have hcv := fun (w : World) (C : Array Value) (n c : Nat) => Lib.run_convert_bytes_const (P := Try.prog) w 22 5 C n c Try.underlying22 Try.underlying5
  have HM0 := Lib.hid h
  clear h
  go_enter Try.func15, Try.ntmps15
  go_wp2_with fail
  refine (fs_New 10 HM0.out).mono ?_
  rintro en w1 (⟨h1, _⟩ | ⟨_, p, rfl, m⟩)
  · omega
  have HM1 := Lib.hid (show Mem w0 (fsC p (newFs 10) :: cs) w1 from m)
  clear m HM0
  go_wp2_with fail
  refine (fs_Create wkA HM1.out wk_acts.1 wk_size).mono ?_
  rintro en w2 ⟨he, m⟩
  rw [wk1_ok] at he
  subst he
  have HM2 := Lib.hid (show Mem w0 (fsC p wk1 :: cs) w2 from m)
  clear m HM1
  go_wp2_with fail
  have HB2 := Lib.hid (show Mem w0 (fsC p wk1 :: blkO w2.heap.size (.cells #[.int .u8 97, .int .u8 98] 5 (2, 2+1)) :: cs) (w2.alloc (.cells #[.int .u8 97, .int .u8 98] 5 (2, 2+1))) from (HM2.out.alloc (.cells #[.int .u8 97, .int .u8 98] 5 (2, 2+1))).bring 1)
  refine (fs_Append wkA [97, 98] (some ⟨w2.heap.size, 0, none⟩) 2 HB2.out (fun v m => m.rdBlk 1 rfl) (by decide) wk_acts.2.1).mono ?_
  rintro en w3 ⟨he, m⟩
  rw [wk2_ok] at he
  subst he
  have HM3 := Lib.hid (show Mem w0 (fsC p wk2 :: cs) w3 from ((m.bring 1).drop))
  clear m HM2 HB2
  go_wp2_with fail
  refine (fs_Sync wkA HM3.out wk_acts.2.2.1).mono ?_
  rintro en w4 ⟨he, m⟩
  rw [wk3_ok] at he
  subst he
  have HM4 := Lib.hid (show Mem w0 (fsC p wk3 :: cs) w4 from m)
  clear m HM3
  go_wp2_with fail
  refine (fs_SyncDir HM4.out wk_acts.2.2.2.1).mono ?_
  rintro en w5 ⟨he, m⟩
  rw [wk4_ok] at he
  subst he
  have HM5 := Lib.hid (show Mem w0 (fsC p wk4 :: cs) w5 from m)
  clear m HM4
  go_wp2_with fail
  have HB5 := Lib.hid (show Mem w0 (fsC p wk4 :: blkO w5.heap.size (.cells #[.int .u8 99, .int .u8 100] 5 (2, 2+1)) :: cs) (w5.alloc (.cells #[.int .u8 99, .int .u8 100] 5 (2, 2+1))) from (HM5.out.alloc (.cells #[.int .u8 99, .int .u8 100] 5 (2, 2+1))).bring 1)
  refine (fs_Append wkA [99, 100] (some ⟨w5.heap.size, 0, none⟩) 2 HB5.out (fun v m => m.rdBlk 1 rfl) (by decide) wk_acts.2.2.2.2.1).mono ?_
  rintro en w6 ⟨he, m⟩
  rw [wk5_ok] at he
  subst he
  have HM6 := Lib.hid (show Mem w0 (fsC p wk5 :: cs) w6 from ((m.bring 1).drop))
  clear m HM5 HB5
  go_wp2_with fail
  have HB6 := Lib.hid (show Mem w0 (fsC p wk5 :: blk w6.heap.size 3 #[.int .i64 0, .int .i64 0, .int .i64 1] :: cs) (w6.alloc (.cells #[.int .i64 0, .int .i64 0, .int .i64 1] 3)) from (HM6.out.alloc (.cells #[.int .i64 0, .int .i64 0, .int .i64 1] 3)).bring 1)
  refine (fs_Fail (l := [0, 0, 1]) (c := 3) (A := some ⟨w6.heap.size, 0, none⟩) HB6.out (fun v m => m.rdBlk 1 rfl) (by decide) (by decide) wk_acts.2.2.2.2.2).mono ?_
  rintro en w7 ⟨q, rfl, m⟩
  have HM7 := Lib.hid (show Mem w0 (fsC q wk6 :: cs) w7 from ((m.bring 1).drop.bring 1).drop)
  clear m HM6 HB6
  go_wp2_with fail
  have HR := Lib.hid (fs_Read wkA 0 9 HM7.out)
  rw [wk6_ok] at HR
  refine (HR.out).mono ?_
  rintro en w8 ⟨A8, c8, rfl, m⟩
  have hcb := conv_bytes (P := Try.prog) w8 22 5 9 Try.underlying22 Try.underlying5 Try.underlying9 A8 c8 [97, 98, 99] (m.app 0 rfl).rd.1
  simp only [List.length_cons, List.length_nil] at hcb
  have HM8 := Lib.hid (m.drop.drop)
  clear m HM7 HR
  go_wp2_with fail
  go_ret
  exact ⟨rfl, HM8.out⟩
end Go.Proofs.Ythphonkiolmkiaa
/- Layer 14, the laws: a deed's cells; what is great; a deed done. -/
set_option linter.unusedVariables false
set_option linter.unusedSimpArgs false
namespace Go.Proofs.Ythphonkiolmkiaa
open Go.RowKit
set_option maxRecDepth 100000
set_option maxHeartbeats 8000000

/-- A deed as it lies in memory. -/
structure OpA where
  call : Nat
  name : ByteArray
  to_ : ByteArray
  off : Int
  A : Option Addr
  b : List UInt8
  c : Nat
def opv (o : OpA) : List Value := [.int .u8 (o.call : Int), sE o.name, sE o.to_, .int .i64 o.off, .slice o.A o.b.length o.c]
structure OpOk (w : World) (o : OpA) : Prop where
  call : o.call < 256
  name : o.name.size ≤ 140737488351232
  to_ : o.to_.size ≤ 140737488351232
  off : -9223372036854775808 ≤ o.off ∧ o.off ≤ 9223372036854775807
  len : o.b.length ≤ o.c ∧ o.c ≤ 140737488351232
  rd : Rd w o.A (o.b.map bv)
theorem run_min_lit {P : Program} (ats : Array TypeId) (ty : TypeId) (a : Int) (w : World) : (Builtin.min_ ats ty #[.int .i64 a, .int .i64 20001]).run P w = .ok (.int .i64 (min a 20001)) w := run_min_i64 ats ty a 20001 w
def GreatR (n : Nat) (w : World) (en : Ending) (w' : World) : Prop := ∃ g, en = .returned (.bool g) ∧ w' = w ∧ (g = false → n ≤ 120)
theorem great_calls (A : Option Addr) (l : List OpA) (c : Nat) (w : World) (hl : l.length ≤ 140737488351232) (hr : Rd w A (l.flatMap opv)) (ho : ∀ o ∈ l, OpOk w o) :
    Calls Try.prog 32 #[.slice A l.length c] w (GreatR l.length w) := by
  have HR := Lib.hid hr
  have HO := Lib.hid ho
  clear hr ho
  go_enter Try.func32, Try.ntmps32
  go_wp2_with fail
  go_loopw [3, 4] (fun v3 v4 wr => ∃ (i n : Nat), v4 = .int .i64 i ∧ v3 = .int .i64 n ∧ i ≤ l.length ∧ n ≤ 40001 ∧ wr = w) (fun _ v4 _ => l.length - (intOf v4).toNat)
  case atStart => exact ⟨0, 0, rfl, rfl, Nat.zero_le _, by omega, rfl⟩
  case round =>
    obtain ⟨i, n, rfl, rfl, hi, hn, rfl⟩ := hrel
    by_cases hgo : i < l.length ∧ n ≤ 20000
    case pos =>
      obtain ⟨x, hx⟩ : ∃ x, l[i]? = some x := ⟨_, List.getElem?_eq_getElem hgo.1⟩
      obtain ⟨b, o, rfl, hcell⟩ := Rd.rec (f := opv) (k := 5) (fun _ => rfl) HR.out hx (by omega)
      have k4 : wr.cell? ⟨b, o + i * 5 + 4, none⟩ = some (.slice x.A x.b.length x.c) := hcell 4 _ rfl
      have hxl : x.b.length ≤ 140737488351232 := by have h := (HO.out x (List.mem_of_getElem? hx)).len; omega
      obtain ⟨m, hm⟩ : ∃ m, m = min x.b.length 20001 := ⟨_, rfl⟩
      have hm2 : m ≤ 20001 := by omega
      have s1 := run_min_lit (P := Try.prog) #[3, 3] 3 (x.b.length : Int) wr
      have e1 : min (x.b.length : Int) 20001 = (m : Int) := by omega
      rw [e1] at s1
      have i1 : (i : Int) < (l.length : Int) := by omega
      have i2 : (n : Int) ≤ 20000 := by omega
      have hgo1 := hgo.1
      clear hcell hm hx hgo e1
      go_wp2_with fail
      go_roundw
      case rel => exact ⟨i + 1, n + m, rfl, by simp, hgo1, by omega, trivial⟩
      case measure => simp [intOf]; omega
    case neg =>
      by_cases h1 : i < l.length
      · have i1 : (i : Int) < (l.length : Int) := by omega
        have i2 : ¬ ((n : Int) ≤ 20000) := by omega
        clear hgo
        go_wp2_with fail
        all_goals
          go_ret
          exact ⟨true, rfl, rfl, fun h => by cases h⟩
      · have i1 : ¬ ((i : Int) < (l.length : Int)) := by omega
        clear hgo
        by_cases h2 : 120 < l.length
        · have i2 : (120 : Int) < (l.length : Int) := by omega
          go_wp2_with fail
          go_ret
          exact ⟨true, rfl, rfl, fun h => by cases h⟩
        · have i2 : ¬ ((120 : Int) < (l.length : Int)) := by omega
          have h3 : l.length ≤ 120 := by omega
          by_cases h4 : 20000 < n
          · have i3 : (20000 : Int) < (n : Int) := by omega
            go_wp2_with fail
            go_ret
            exact ⟨true, rfl, rfl, fun h => by cases h⟩
          · have i3 : ¬ ((20000 : Int) < (n : Int)) := by omega
            go_wp2_with fail
            go_ret
            exact ⟨false, rfl, rfl, fun _ => h3⟩
end Go.Proofs.Ythphonkiolmkiaa
/- Layer 14, the laws: a deed done. -/
set_option linter.unusedVariables false
set_option linter.unusedSimpArgs false
namespace Go.Proofs.Ythphonkiolmkiaa
open Go.RowKit
set_option maxRecDepth 100000
set_option maxHeartbeats 8000000

abbrev opV (o : OpA) : Value := .agg #[.int .u8 (o.call : Int), sE o.name, sE o.to_, .int .i64 o.off, .slice o.A o.b.length o.c]
def fsDo (S : Fs) (o : OpA) : Fs × Nat :=
  if o.call = 0 then fsCreate S o.name else if o.call = 1 then fsAppend S o.name o.b else if o.call = 2 then fsWrite S o.name o.off o.b else if o.call = 3 then fsCut S o.name o.off
  else if o.call = 4 then fsRename S o.name o.to_ else if o.call = 5 then fsRemove S o.name else if o.call = 6 then fsSync S o.name else if o.call = 7 then fsSyncDir S else if o.call = 8 then fsArm S o.off else (S, 0)
theorem do_calls {q : Nat} {S : Fs} (o : OpA) {w0 w : World} {cs : List Chunk} (h : Mem w0 (fsC q S :: cs) w) (h1 : o.name.size ≤ 140737488351232) (h2 : o.to_.size ≤ 140737488351232) (h3 : o.off ≤ 9223372036854775807) (h4 : o.b.length ≤ 140737488351232) (hA : ∀ v, Mem w0 (fsC q S :: cs) v → Rd v o.A (o.b.map bv)) (ha : S.acts < 1000000000) :
    Calls Try.prog 33 #[pE q, opV o] w (fun en w' => en = .returned (nE (fsDo S o).2) ∧ Mem w0 (fsC q (fsDo S o).1 :: cs) w') := by
  obtain ⟨call, name, to_, off, A, b, c⟩ := o
  simp only at h1 h2 h3 h4 hA
  have HM := Lib.hid (h.alloc (.cells #[.int .u8 (call : Int), sE name, sE to_, .int .i64 off, .slice A b.length c] 53))
  have HA := Lib.hid (fun (v : World) (m : Mem w0 (fsC q S :: blk w.heap.size 53 #[.int .u8 (call : Int), sE name, sE to_, .int .i64 off, .slice A b.length c] :: cs) v) => hA v (m.bring 1).drop)
  have HB := Lib.hid (And.intro h1 (And.intro h2 (And.intro h3 (And.intro h4 ha))))
  clear h hA h1 h2 h3 h4 ha
  obtain ⟨r, hr⟩ : ∃ r, r = fsDo S ⟨call, name, to_, off, A, b, c⟩ := ⟨_, rfl⟩
  rw [← hr]
  have HR := Lib.hid hr
  clear hr
  have hc : call = 0 ∨ call = 1 ∨ call = 2 ∨ call = 3 ∨ call = 4 ∨ call = 5 ∨ call = 6 ∨ call = 7 ∨ call = 8 ∨ 9 ≤ call := by omega
  simp only [opV]
  go_enter Try.func33, Try.ntmps33
  go_upto_region 1 with (fail)
  generalize w.alloc (.cells #[.int .u8 (call : Int), sE name, sE to_, .int .i64 off, .slice A b.length c] 53) = v at HM ⊢
  generalize w.heap.size = g at HM HA ⊢
  have k0 : v.cell? ⟨g, 0, none⟩ = some (.int .u8 (call : Int)) := (HM.out.ob 0 rfl).cell 0 rfl
  have k1 : v.cell? ⟨g, 1, none⟩ = some (sE name) := (HM.out.ob 0 rfl).cell 1 rfl
  have k2 : v.cell? ⟨g, 2, none⟩ = some (sE to_) := (HM.out.ob 0 rfl).cell 2 rfl
  have k3 : v.cell? ⟨g, 3, none⟩ = some (.int .i64 off) := (HM.out.ob 0 rfl).cell 3 rfl
  have k4 : v.cell? ⟨g, 4, none⟩ = some (.slice A b.length c) := (HM.out.ob 0 rfl).cell 4 rfl
  rcases hc with rfl | rfl | rfl | rfl | rfl | rfl | rfl | rfl | rfl | hc
  · have E := Lib.hid (show r = fsCreate S name from HR.out)
    go_wp2_with fail
    refine (fs_Create name (HM.out.bring 1) HB.out.2.2.2.2 (by have := HB.out.1; omega)).mono ?_
    rintro en w2 ⟨rfl, m⟩
    have HM2 := Lib.hid ((m.bring 1).drop)
    clear m HM HA k0 k1 k2 k3 k4
    go_wp2_with fail
    go_ret
    rw [E.out]
    exact ⟨rfl, HM2.out⟩
  · have E := Lib.hid (show r = fsAppend S name b from HR.out)
    go_wp2_with fail
    refine (fs_Append name b A c (HM.out.bring 1) HA.out (by have := HB.out.2.2.2.1; omega) HB.out.2.2.2.2).mono ?_
    rintro en w2 ⟨rfl, m⟩
    have HM2 := Lib.hid ((m.bring 1).drop)
    clear m HM HA k0 k1 k2 k3 k4
    go_wp2_with fail
    go_ret
    rw [E.out]
    exact ⟨rfl, HM2.out⟩
  · have E := Lib.hid (show r = fsWrite S name off b from HR.out)
    go_wp2_with fail
    refine (fs_Write name off b A c (HM.out.bring 1) HB.out.2.2.2.2 HA.out HB.out.2.2.2.1).mono ?_
    rintro en w2 ⟨rfl, m⟩
    have HM2 := Lib.hid ((m.bring 1).drop)
    clear m HM HA k0 k1 k2 k3 k4
    go_wp2_with fail
    go_ret
    rw [E.out]
    exact ⟨rfl, HM2.out⟩
  · have E := Lib.hid (show r = fsCut S name off from HR.out)
    go_wp2_with fail
    refine (fs_Cut name off (HM.out.bring 1) HB.out.2.2.2.2).mono ?_
    rintro en w2 ⟨rfl, m⟩
    have HM2 := Lib.hid ((m.bring 1).drop)
    clear m HM HA k0 k1 k2 k3 k4
    go_wp2_with fail
    go_ret
    rw [E.out]
    exact ⟨rfl, HM2.out⟩
  · have E := Lib.hid (show r = fsRename S name to_ from HR.out)
    go_wp2_with fail
    refine (fs_Rename name to_ (HM.out.bring 1) HB.out.2.2.2.2 (by have := HB.out.2.1; omega)).mono ?_
    rintro en w2 ⟨rfl, m⟩
    have HM2 := Lib.hid ((m.bring 1).drop)
    clear m HM HA k0 k1 k2 k3 k4
    go_wp2_with fail
    go_ret
    rw [E.out]
    exact ⟨rfl, HM2.out⟩
  · have E := Lib.hid (show r = fsRemove S name from HR.out)
    go_wp2_with fail
    refine (fs_Remove name (HM.out.bring 1) HB.out.2.2.2.2).mono ?_
    rintro en w2 ⟨rfl, m⟩
    have HM2 := Lib.hid ((m.bring 1).drop)
    clear m HM HA k0 k1 k2 k3 k4
    go_wp2_with fail
    go_ret
    rw [E.out]
    exact ⟨rfl, HM2.out⟩
  · have E := Lib.hid (show r = fsSync S name from HR.out)
    go_wp2_with fail
    refine (fs_Sync name (HM.out.bring 1) HB.out.2.2.2.2).mono ?_
    rintro en w2 ⟨rfl, m⟩
    have HM2 := Lib.hid ((m.bring 1).drop)
    clear m HM HA k0 k1 k2 k3 k4
    go_wp2_with fail
    go_ret
    rw [E.out]
    exact ⟨rfl, HM2.out⟩
  · have E := Lib.hid (show r = fsSyncDir S from HR.out)
    go_wp2_with fail
    refine (fs_SyncDir (HM.out.bring 1) HB.out.2.2.2.2).mono ?_
    rintro en w2 ⟨rfl, m⟩
    have HM2 := Lib.hid ((m.bring 1).drop)
    clear m HM HA k0 k1 k2 k3 k4
    go_wp2_with fail
    go_ret
    rw [E.out]
    exact ⟨rfl, HM2.out⟩
  · have E := Lib.hid (show r = fsArm S off from HR.out)
    go_wp2_with fail
    refine (fs_Arm off (HM.out.bring 1) (by have := HB.out.2.2.1; omega)).mono ?_
    rintro en w2 ⟨rfl, m⟩
    have HM2 := Lib.hid ((m.bring 1).drop)
    clear m HM HA k0 k1 k2 k3 k4
    go_wp2_with fail
    go_ret
    rw [E.out]
    exact ⟨rfl, HM2.out⟩
  · have E := Lib.hid (show r = (S, 0) by rw [HR.out]; unfold fsDo; simp only; rw [if_neg (by omega)]; rw [if_neg (by omega)]; rw [if_neg (by omega)]; rw [if_neg (by omega)]; rw [if_neg (by omega)]; rw [if_neg (by omega)]; rw [if_neg (by omega)]; rw [if_neg (by omega)]; rw [if_neg (by omega)])
    have n0 : ((call : Int) == 0) = false := by simp; omega
    have n1 : ((call : Int) == 1) = false := by simp; omega
    have n2 : ((call : Int) == 2) = false := by simp; omega
    have n3 : ((call : Int) == 3) = false := by simp; omega
    have n4 : ((call : Int) == 4) = false := by simp; omega
    have n5 : ((call : Int) == 5) = false := by simp; omega
    have n6 : ((call : Int) == 6) = false := by simp; omega
    have n7 : ((call : Int) == 7) = false := by simp; omega
    have n8 : ((call : Int) == 8) = false := by simp; omega
    clear hc
    go_wp2_with fail
    go_ret
    rw [E.out]
    exact ⟨rfl, HM.out.drop⟩
end Go.Proofs.Ythphonkiolmkiaa
/- Layer 14 in plain Lean: what is read behind a failure; what is used; what is dead. No program in sight. -/
set_option linter.unusedVariables false
set_option linter.unusedSimpArgs false
namespace Go.Proofs.Ythphonkiolmkiaa
open Go.RowKit

/-! ### what is read of what a failure leaves -/
theorem numbered_at (ns : List ByteArray) (i : Nat) : (numbered ns)[i]? = (ns[i]?).map (fun s => (s, i + 1)) := by
  unfold numbered
  rw [List.getElem?_map, List.getElem?_zipIdx]
  cases ns[i]? <;> simp
theorem read_fail {S : Fs} (h : FsOk S) (l : List Int) {s : ByteArray} {n : Nat} (hn : mGet (failDir S l) s = some n) :
    ∃ i, (failDir S l)[i]? = some (s, n) ∧ fsRead (fsFail S l) s 0 1048576 = ((leftOfF (flAt S.fl n) (leftCuts S.fl ((failDir S l).take i) (takeN (S.row.length + 1) l).2)).1, 0) := by
  have hin := failDir_in h l
  obtain ⟨i, hi⟩ := List.getElem?_of_mem ((mGet_some hin.ok.nd).1 hn)
  refine ⟨i, hi, ?_⟩
  have hok := fail_ok h l
  have hseen : (fsFail S l).seen = numbered (dNames (failDir S l)) := rfl
  have hat : (fsFail S l).seen[i]? = some (s, i + 1) := by rw [hseen, numbered_at]; simp [dNames, hi]
  have hg : mGet (fsFail S l).seen s = some (i + 1) := mGet_at hok.seen.ok.nd hat
  have he : getE (fsFail S l) s = 0 := by unfold getE; rw [hg]; rfl
  have hN : getN (fsFail S l) s = i + 1 := by unfold getN; rw [hg]; rfl
  have key : ∀ (D : Dir) (i : Nat) (l : List Int) (p : ByteArray × Nat), D[i]? = some p → (leftAll S.fl D l)[i]? = some (leftOfF (flAt S.fl p.2) (leftCuts S.fl (D.take i) l)).1 := by
    intro D
    induction D with
    | nil => intro i l p h; simp at h
    | cons q D ih =>
      intro i l p h
      cases i with
      | zero => simp at h; subst h; simp [leftAll, leftCuts]
      | succ i =>
        simp only [leftAll, List.getElem?_cons_succ, List.take_succ_cons, leftCuts]
        exact ih i _ p (by simpa using h)
  have hf := key _ i (takeN (S.row.length + 1) l).2 _ hi
  have hfl : flAt (fsFail S l).fl (i + 1) = ⟨(leftOfF (flAt S.fl n) (leftCuts S.fl ((failDir S l).take i) (takeN (S.row.length + 1) l).2)).1, (leftOfF (flAt S.fl n) (leftCuts S.fl ((failDir S l).take i) (takeN (S.row.length + 1) l).2)).1, []⟩ := by
    unfold flAt
    show (((leftAll S.fl (failDir S l) (takeN (S.row.length + 1) l).2).map (fun b => (⟨b, b, []⟩ : Fl)))[i + 1 - 1]?).getD ⟨[], [], []⟩ = _
    rw [Nat.add_sub_cancel, List.getElem?_map, hf]; rfl
  have hlen : (leftOfF (flAt S.fl n) (leftCuts S.fl ((failDir S l).take i) (takeN (S.row.length + 1) l).2)).1.length ≤ M0 := leftOfF_len (flAt_ok h (hin.pos _ (List.mem_of_getElem? hi)).1 (hin.pos _ (List.mem_of_getElem? hi)).2).2 _
  unfold fsRead
  rw [he, hN, hfl]
  simp only
  rw [if_neg (by simp), if_neg (by omega)]
  have e1 : (0 : Int).toNat = 0 := rfl
  have e2 : (1048576 : Int).toNat = 1048576 := rfl
  rw [e1, e2, List.drop_zero, List.take_of_length_le hlen]
theorem left_still {x : Fl} (h : x.row = []) (l : List Int) : (leftOfF x l).1 = x.sure := by
  unfold leftOfF
  rw [h]
  simp

/-! ### a disk that is dead -/
theorem do_dead {S : Fs} (h : S.dead = true) (o : OpA) : fsDo S o = (S, if o.call ≤ 8 then 13 else 0) := by
  have hg : ∀ s, getE S s = 13 := fun s => by unfold getE; rw [h]; rfl
  have h9 : o.call = 0 ∨ o.call = 1 ∨ o.call = 2 ∨ o.call = 3 ∨ o.call = 4 ∨ o.call = 5 ∨ o.call = 6 ∨ o.call = 7 ∨ o.call = 8 ∨ 8 < o.call := by omega
  unfold fsDo
  rcases h9 with e | e | e | e | e | e | e | e | e | e
  all_goals first
    | (rw [e]; simp [fsCreate, fsAppend, fsWrite, fsCut, fsRename, fsRemove, fsSync, fsSyncDir, fsArm, hg, h]; done)
    | (rw [if_neg (by omega), if_neg (by omega), if_neg (by omega), if_neg (by omega), if_neg (by omega), if_neg (by omega), if_neg (by omega), if_neg (by omega), if_neg (by omega), if_neg (by omega)])

/-! ### what a deed does to the count -/
theorem ite_ind {α : Type} {P : α → Prop} {c : Prop} [Decidable c] {a b : α} (ha : c → P a) (hb : ¬ c → P b) : P (if c then a else b) := by
  by_cases h : c
  · rw [if_pos h]; exact ha h
  · rw [if_neg h]; exact hb h
theorem do_acts (S : Fs) (o : OpA) : (fsDo S o).1.acts ≤ S.acts + 1 := by
  unfold fsDo fsCreate fsAppend fsWrite fsCut fsRename fsRemove fsSync fsSyncDir fsArm
  repeat' (refine ite_ind (P := fun r : Fs × Nat => r.1.acts ≤ S.acts + 1) (fun _ => ?_) (fun _ => ?_))
  all_goals first
    | exact Nat.le_succ _
    | exact Nat.le_refl _
end Go.Proofs.Ythphonkiolmkiaa
/- Layer 14, the law SimfsRename: walked, and why it holds. -/
set_option linter.unusedVariables false
set_option linter.unusedSimpArgs false
namespace Go.Proofs.Ythphonkiolmkiaa
open Go.RowKit
set_option maxRecDepth 100000
set_option maxHeartbeats 8000000

def nmA : ByteArray := ⟨#[97]⟩
def nmN : ByteArray := ⟨#[110]⟩
def rn1 : Fs := ⟨1048576, [⟨[], [], []⟩], [], [(nmA, 1)], [⟨0, .empty, nmA, 1⟩], 1, 0, false⟩
def rn2 (b : List UInt8) : Fs := ⟨1048576, [⟨[], b, [⟨false, 0, b⟩]⟩], [], [(nmA, 1)], [⟨0, .empty, nmA, 1⟩], 2, 0, false⟩
def rn3 (b : List UInt8) : Fs := ⟨1048576, [⟨b, b, []⟩], [], [(nmA, 1)], [⟨0, .empty, nmA, 1⟩], 3, 0, false⟩
def rn4 (b : List UInt8) : Fs := ⟨1048576, [⟨b, b, []⟩, ⟨[], [], []⟩], [], [(nmA, 1), (nmN, 2)], [⟨0, .empty, nmA, 1⟩, ⟨0, .empty, nmN, 2⟩], 4, 0, false⟩
def rn5 (b c : List UInt8) : Fs := ⟨1048576, [⟨b, b, []⟩, ⟨[], c, [⟨false, 0, c⟩]⟩], [], [(nmA, 1), (nmN, 2)], [⟨0, .empty, nmA, 1⟩, ⟨0, .empty, nmN, 2⟩], 5, 0, false⟩
def rn6 (b c : List UInt8) : Fs := ⟨1048576, [⟨b, b, []⟩, ⟨c, c, []⟩], [], [(nmA, 1), (nmN, 2)], [⟨0, .empty, nmA, 1⟩, ⟨0, .empty, nmN, 2⟩], 6, 0, false⟩
def rn7 (b c : List UInt8) : Fs := ⟨1048576, [⟨b, b, []⟩, ⟨c, c, []⟩], [(nmA, 1), (nmN, 2)], [(nmA, 1), (nmN, 2)], [], 7, 0, false⟩
def rn8 (b c : List UInt8) : Fs := ⟨1048576, [⟨b, b, []⟩, ⟨c, c, []⟩], [(nmA, 1), (nmN, 2)], [(nmA, 2)], [⟨1, nmN, nmA, 0⟩], 8, 0, false⟩
def rn9 (b c : List UInt8) : Fs := ⟨1048576, [⟨b, b, []⟩, ⟨c, c, []⟩], [(nmA, 2)], [(nmA, 2)], [], 9, 0, false⟩
theorem rn1_eq : fsCreate (newFs 1048576) nmA = (rn1, 0) := by kernel_rfl
theorem chDo_zero (b : List UInt8) : chDo [] ⟨false, 0, b⟩ = b := by unfold chDo; simp
theorem append_eq {S : Fs} {s : ByteArray} {b : List UInt8} (h1 : getE S s = 0) (h2 : ¬ (0 < b.length ∧ S.room < b.length + S.used)) : fsAppend S s b = endE (fails (change S (getN S s - 1) ⟨false, (flAt S.fl (getN S s)).now.length, b⟩)) := by
  unfold fsAppend
  rw [if_neg (by simp [h1]), if_neg h2]
theorem rn2_eq {b : List UInt8} (h : b.length ≤ 10000) : fsAppend rn1 nmA b = (rn2 b, 0) := by
  have hu : rn1.used = 0 := by kernel_rfl
  rw [append_eq (by kernel_rfl) (by rw [hu]; show ¬ (0 < b.length ∧ 1048576 < b.length + 0); omega)]
  show ((⟨1048576, [⟨[], chDo [] ⟨false, 0, b⟩, [⟨false, 0, b⟩]⟩], [], [(nmA, 1)], [⟨0, .empty, nmA, 1⟩], 2, 0, false⟩ : Fs), 0) = _
  rw [chDo_zero]; rfl
theorem rn3_eq (b : List UInt8) : fsSync (rn2 b) nmA = (rn3 b, 0) := by kernel_rfl
theorem rn4_eq (b : List UInt8) : fsCreate (rn3 b) nmN = (rn4 b, 0) := by kernel_rfl
theorem rn5_eq {b c : List UInt8} (h : b.length + c.length ≤ 10000) : fsAppend (rn4 b) nmN c = (rn5 b c, 0) := by
  have hu : (rn4 b).used = b.length + 0 := by kernel_rfl
  rw [append_eq (by kernel_rfl) (by rw [hu]; show ¬ (0 < c.length ∧ 1048576 < c.length + (b.length + 0)); omega)]
  show ((⟨1048576, [⟨b, b, []⟩, ⟨[], chDo [] ⟨false, 0, c⟩, [⟨false, 0, c⟩]⟩], [], [(nmA, 1), (nmN, 2)], [⟨0, .empty, nmA, 1⟩, ⟨0, .empty, nmN, 2⟩], 5, 0, false⟩ : Fs), 0) = _
  rw [chDo_zero]; rfl
theorem rn6_eq (b c : List UInt8) : fsSync (rn5 b c) nmN = (rn6 b c, 0) := by kernel_rfl
theorem rn7_eq (b c : List UInt8) : fsSyncDir (rn6 b c) = (rn7 b c, 0) := by kernel_rfl
theorem rn8_eq (b c : List UInt8) : fsRename (rn7 b c) nmN nmA = (rn8 b c, 0) := by kernel_rfl
theorem rn9_eq (b c : List UInt8) : fsSyncDir (rn8 b c) = (rn9 b c, 0) := by kernel_rfl
theorem rn_read8 {b c : List UInt8} (ho : FsOk (rn8 b c)) (l : List Int) : fsRead (fsFail (rn8 b c) l) nmA 0 1048576 = (c, 0) ∨ fsRead (fsFail (rn8 b c) l) nmA 0 1048576 = (b, 0) := by
  have hk := takeN_lt (many := 2) (by omega) l
  have hd : failDir (rn8 b c) l = [(nmA, 1), (nmN, 2)] ∨ failDir (rn8 b c) l = [(nmA, 2)] := by
    show (([⟨1, nmN, nmA, 0⟩] : List Mv).take (takeN 2 l).1).foldl dirDo [(nmA, 1), (nmN, 2)] = _ ∨ (([⟨1, nmN, nmA, 0⟩] : List Mv).take (takeN 2 l).1).foldl dirDo [(nmA, 1), (nmN, 2)] = _
    rcases (show (takeN 2 l).1 = 0 ∨ (takeN 2 l).1 = 1 by omega) with e | e
    · rw [e]; exact .inl rfl
    · rw [e]; right; kernel_rfl
  rcases hd with hd | hd
  · obtain ⟨i, _, hr⟩ := read_fail ho l (s := nmA) (n := 1) (by rw [hd]; kernel_rfl)
    rw [hr, left_still rfl]; exact .inr rfl
  · obtain ⟨i, _, hr⟩ := read_fail ho l (s := nmA) (n := 2) (by rw [hd]; kernel_rfl)
    rw [hr, left_still rfl]; exact .inl rfl
theorem rn_read9 {b c : List UInt8} (ho : FsOk (rn9 b c)) (l : List Int) : fsRead (fsFail (rn9 b c) l) nmA 0 1048576 = (c, 0) := by
  have hd : failDir (rn9 b c) l = [(nmA, 2)] := by
    show (([] : List Mv).take _).foldl dirDo [(nmA, 2)] = _
    rw [List.take_nil]; rfl
  obtain ⟨i, _, hr⟩ := read_fail ho l (s := nmA) (n := 2) (by rw [hd]; kernel_rfl)
  rw [hr, left_still rfl]; rfl
def RetTrue (w : World) (en : Ending) (w' : World) : Prop := en = .returned (.bool true) ∧ Bl w w'
theorem RetTrue.mk {w w' : World} {x : Bool} (h : x = true) (hb : Bl w w') : RetTrue w (.returned (.bool x)) w' := ⟨by rw [h], hb⟩
theorem nm_size : nmA.size ≤ 281474976710656 ∧ nmN.size ≤ 281474976710656 := ⟨by exact of_decide_eq_true (by kernel_rfl), by exact of_decide_eq_true (by kernel_rfl)⟩
theorem Mem.fsOk {w0 w : World} {cs : List Chunk} {q : Nat} {S : Fs} (h : Mem w0 (fsC q S :: cs) w) : FsOk S := by
  obtain ⟨_, _, ho, _⟩ := h.fs
  exact ho
theorem rename_calls (A0 A1 A2 : Option Addr) (c0 c1 c2 : Nat) (b c : List UInt8) (l : List Int) (sync : Bool) (W : World) (hb : b.length ≤ 140737488351232) (hc : c.length ≤ 140737488351232) (r0 : Rd W A0 (b.map bv)) (r1 : Rd W A1 (c.map bv)) (r2 : Rd W A2 (l.map iE)) (hl : l.length ≤ c2) (hi : ∀ a ∈ l, -9223372036854775808 ≤ a ∧ a ≤ 9223372036854775807) :
    Calls Try.prog 4 #[.slice A0 b.length c0, .slice A1 c.length c1, .slice A2 l.length c2, .bool sync] W (RetTrue W) := by
  have HR0 := Lib.hid r0
  have HR1 := Lib.hid r1
  have HR2 := Lib.hid r2
  have HI := Lib.hid (And.intro hl hi)
  have HM0 := Lib.hid (Mem.start W)
  clear r0 r1 r2 hl hi
  go_enter Try.func4, Try.ntmps4
  by_cases hbig : 10000 < b.length + c.length
  case pos =>
    have i1 : (10000 : Int) < (b.length : Int) + (c.length : Int) := by omega
    clear hbig
    go_wp2_with fail
    refine (works_calls HM0.out).mono ?_
    rintro en w1 ⟨rfl, m⟩
    have HM1 := Lib.hid m
    clear m HM0
    go_wp2_with fail
    go_ret
    exact RetTrue.mk rfl HM1.out.toBl
  case neg =>
    have i1 : ¬ ((10000 : Int) < (b.length : Int) + (c.length : Int)) := by omega
    have HL := Lib.hid (show b.length + c.length ≤ 10000 by omega)
    clear hbig
    go_wp2_with fail
    refine (fs_New 1048576 HM0.out).mono ?_
    rintro en w1 (⟨h1, _⟩ | ⟨_, p, rfl, m⟩)
    · omega
    have HM1 := Lib.hid (show Mem W (fsC p (newFs 1048576) :: [old W]) w1 from m)
    clear m HM0 i1
    go_wp2_with fail
    have HC1 := Lib.hid (fs_Create nmA HM1.out (of_decide_eq_true rfl) nm_size.1)
    rw [rn1_eq] at HC1
    refine (HC1.out).mono ?_
    rintro en w2 ⟨rfl, m⟩
    have HM2 := Lib.hid (show Mem W (fsC p rn1 :: [old W]) w2 from m)
    clear m HM1 HC1
    go_wp2_with fail
    have HC2 := Lib.hid (fs_Append nmA b A0 c0 HM2.out (fun v m => HR0.out.bl (m.toBlAt 1 rfl rfl rfl rfl)) (by have := HL.out; omega) (of_decide_eq_true rfl))
    rw [rn2_eq (by have := HL.out; omega)] at HC2
    refine (HC2.out).mono ?_
    rintro en w3 ⟨rfl, m⟩
    have HM3 := Lib.hid (show Mem W (fsC p (rn2 b) :: [old W]) w3 from m)
    clear m HM2 HC2
    go_wp2_with fail
    have HC3 := Lib.hid (fs_Sync nmA HM3.out (of_decide_eq_true rfl))
    rw [rn3_eq] at HC3
    refine (HC3.out).mono ?_
    rintro en w4 ⟨rfl, m⟩
    have HM4 := Lib.hid (show Mem W (fsC p (rn3 b) :: [old W]) w4 from m)
    clear m HM3 HC3
    go_wp2_with fail
    have HC4 := Lib.hid (fs_Create nmN HM4.out (of_decide_eq_true rfl) nm_size.2)
    rw [rn4_eq] at HC4
    refine (HC4.out).mono ?_
    rintro en w5 ⟨rfl, m⟩
    have HM5 := Lib.hid (show Mem W (fsC p (rn4 b) :: [old W]) w5 from m)
    clear m HM4 HC4
    go_wp2_with fail
    have HC5 := Lib.hid (fs_Append nmN c A1 c1 HM5.out (fun v m => HR1.out.bl (m.toBlAt 1 rfl rfl rfl rfl)) (by have := HL.out; omega) (of_decide_eq_true rfl))
    rw [rn5_eq HL.out] at HC5
    refine (HC5.out).mono ?_
    rintro en w6 ⟨rfl, m⟩
    have HM6 := Lib.hid (show Mem W (fsC p (rn5 b c) :: [old W]) w6 from m)
    clear m HM5 HC5
    go_wp2_with fail
    have HC6 := Lib.hid (fs_Sync nmN HM6.out (of_decide_eq_true rfl))
    rw [rn6_eq] at HC6
    refine (HC6.out).mono ?_
    rintro en w7 ⟨rfl, m⟩
    have HM7 := Lib.hid (show Mem W (fsC p (rn6 b c) :: [old W]) w7 from m)
    clear m HM6 HC6
    go_wp2_with fail
    have HC7 := Lib.hid (fs_SyncDir HM7.out (of_decide_eq_true rfl))
    rw [rn7_eq] at HC7
    refine (HC7.out).mono ?_
    rintro en w8 ⟨rfl, m⟩
    have HM8 := Lib.hid (show Mem W (fsC p (rn7 b c) :: [old W]) w8 from m)
    clear m HM7 HC7
    go_wp2_with fail
    have HC8 := Lib.hid (fs_Rename nmN nmA HM8.out (of_decide_eq_true rfl) nm_size.1)
    rw [rn8_eq] at HC8
    refine (HC8.out).mono ?_
    rintro en w9 ⟨rfl, m⟩
    have HM9 := Lib.hid (show Mem W (fsC p (rn8 b c) :: [old W]) w9 from m)
    clear m HM8 HC8
    cases sync
    case false =>
      go_wp2_with fail
      refine (fs_Fail (l := l) (c := c2) (A := A2) HM9.out (fun v m => HR2.out.bl (m.toBlAt 1 rfl rfl rfl rfl)) HI.out.1 HI.out.2 (of_decide_eq_true rfl)).mono ?_
      rintro en w10 ⟨q, rfl, m⟩
      have HM10 := Lib.hid (show Mem W (fsC q (fsFail (rn8 b c) l) :: fsC p (rn8 b c) :: [old W]) w10 from m)
      clear m HM9
      go_wp2_with fail
      have HRD := Lib.hid (fs_Read nmA 0 1048576 HM10.out)
      rcases rn_read8 (HM10.out.drop.fsOk) l with he | he
      · rw [he] at HRD
        refine (HRD.out).mono ?_
        rintro en w11 ⟨A8, c8, rfl, m⟩
        have HM11 := Lib.hid (show Mem W (row 5 1 (.slice A8 c.length c8) c.length (c.map bv) :: fsC q _ :: fsC p _ :: [old W]) w11 from m)
        clear m HM10 HRD
        go_wp2_with fail
        refine (same_calls A8 A1 c8 c1 c c _ (by have := HL.out; omega) (HM11.out.app 0 rfl).rd.1 (HR1.out.bl (HM11.out.toBlAt 3 rfl rfl rfl rfl))).mono ?_
        rintro en v12 ⟨rfl, k, rfl⟩
        have HM12 := Lib.hid (HM11.out.drewN k)
        clear HM11
        generalize w11.drewN k = w12 at HM12 ⊢
        simp only [decide_true]
        go_wp2_with fail
        refine (works_calls HM12.out).mono ?_
        rintro en w13 ⟨rfl, m⟩
        have HM13 := Lib.hid m
        clear m HM12
        go_wp2_with fail
        go_ret
        exact RetTrue.mk rfl (HM13.out.toBlAt 3 rfl rfl rfl rfl)
      · rw [he] at HRD
        refine (HRD.out).mono ?_
        rintro en w11 ⟨A8, c8, rfl, m⟩
        have HM11 := Lib.hid (show Mem W (row 5 1 (.slice A8 b.length c8) b.length (b.map bv) :: fsC q _ :: fsC p _ :: [old W]) w11 from m)
        clear m HM10 HRD
        go_wp2_with fail
        refine (same_calls A8 A1 c8 c1 b c _ (by have := HL.out; omega) (HM11.out.app 0 rfl).rd.1 (HR1.out.bl (HM11.out.toBlAt 3 rfl rfl rfl rfl))).mono ?_
        rintro en v12 ⟨rfl, k, rfl⟩
        have HM12 := Lib.hid (HM11.out.drewN k)
        clear HM11
        generalize w11.drewN k = w12 at HM12 ⊢
        by_cases hbc : b = c
        · subst hbc
          simp only [decide_true]
          go_wp2_with fail
          refine (works_calls HM12.out).mono ?_
          rintro en w13 ⟨rfl, m⟩
          have HM13 := Lib.hid m
          clear m HM12
          go_wp2_with fail
          go_ret
          exact RetTrue.mk rfl (HM13.out.toBlAt 3 rfl rfl rfl rfl)
        · simp only [decide_eq_false hbc]
          go_wp2_with fail
          refine (same_calls A8 A0 c8 c0 b b _ (by have := HL.out; omega) (HM12.out.app 0 rfl).rd.1 (HR0.out.bl (HM12.out.toBlAt 3 rfl rfl rfl rfl))).mono ?_
          rintro en v13 ⟨rfl, k, rfl⟩
          have HM13 := Lib.hid (HM12.out.drewN k)
          clear HM12
          generalize w12.drewN k = w13 at HM13 ⊢
          simp only [decide_true]
          go_wp2_with fail
          refine (works_calls HM13.out).mono ?_
          rintro en w14 ⟨rfl, m⟩
          have HM14 := Lib.hid m
          clear m HM13
          go_wp2_with fail
          go_ret
          exact RetTrue.mk rfl (HM14.out.toBlAt 3 rfl rfl rfl rfl)
    case true =>
      go_wp2_with fail
      have HC9 := Lib.hid (fs_SyncDir HM9.out (of_decide_eq_true rfl))
      rw [rn9_eq] at HC9
      refine (HC9.out).mono ?_
      rintro en w10 ⟨rfl, m⟩
      have HM10 := Lib.hid (show Mem W (fsC p (rn9 b c) :: [old W]) w10 from m)
      clear m HM9 HC9
      go_wp2_with fail
      refine (fs_Fail (l := l) (c := c2) (A := A2) HM10.out (fun v m => HR2.out.bl (m.toBlAt 1 rfl rfl rfl rfl)) HI.out.1 HI.out.2 (of_decide_eq_true rfl)).mono ?_
      rintro en w11 ⟨q, rfl, m⟩
      have HM11 := Lib.hid (show Mem W (fsC q (fsFail (rn9 b c) l) :: fsC p (rn9 b c) :: [old W]) w11 from m)
      clear m HM10
      go_wp2_with fail
      have HRD := Lib.hid (fs_Read nmA 0 1048576 HM11.out)
      rw [rn_read9 (HM11.out.drop.fsOk) l] at HRD
      refine (HRD.out).mono ?_
      rintro en w12 ⟨A8, c8, rfl, m⟩
      have HM12 := Lib.hid (show Mem W (row 5 1 (.slice A8 c.length c8) c.length (c.map bv) :: fsC q _ :: fsC p _ :: [old W]) w12 from m)
      clear m HM11 HRD
      go_wp2_with fail
      refine (same_calls A8 A1 c8 c1 c c _ (by have := HL.out; omega) (HM12.out.app 0 rfl).rd.1 (HR1.out.bl (HM12.out.toBlAt 3 rfl rfl rfl rfl))).mono ?_
      rintro en v13 ⟨rfl, k, rfl⟩
      have HM13 := Lib.hid (HM12.out.drewN k)
      clear HM12
      generalize w12.drewN k = w13 at HM13 ⊢
      simp only [decide_true]
      go_wp2_with fail
      refine (works_calls HM13.out).mono ?_
      rintro en w14 ⟨rfl, m⟩
      have HM14 := Lib.hid m
      clear m HM13
      go_wp2_with fail
      go_ret
      exact RetTrue.mk rfl (HM14.out.toBlAt 3 rfl rfl rfl rfl)
end Go.Proofs.Ythphonkiolmkiaa
/- Layer 14, the reference walked: a file behind an act. -/
set_option linter.unusedVariables false
set_option linter.unusedSimpArgs false
namespace Go.Proofs.Ythphonkiolmkiaa
open Go.RowKit
set_option maxRecDepth 100000
set_option maxHeartbeats 8000000

theorem ref_done (c : Chg) (A B : Option Addr) (s : List UInt8) (capA capB : Nat) {w0 w : World} {cs : List Chunk} (h : Mem w0 cs w) (hA : ∀ v, Mem w0 cs v → Rd v A (s.map bv)) (hB : ∀ v, Mem w0 cs v → Rd v B (c.b.map bv)) (hs : s.length ≤ M0) (hcA : s.length ≤ capA) (hcB : c.b.length ≤ capB) (hc : ChOk s c) :
    Calls Try.prog 92 #[.slice A s.length capA, .agg #[.bool c.cut, nE c.off, .slice B c.b.length capB]] w (fun en w' => ∃ A' cap', en = .returned (.slice A' (chDo s c).length cap') ∧ Mem w0 (row 5 1 (.slice A' (chDo s c).length cap') (chDo s c).length ((chDo s c).map bv) :: cs) w') := by
  obtain ⟨r, hr⟩ : ∃ r, r = chDo s c := ⟨_, rfl⟩
  rw [← hr]
  obtain ⟨cut, k, cb⟩ := c
  have hk : k ≤ s.length := hc.off
  have he : k + cb.length ≤ 1048576 := hc.end_
  have hs2 : s.length ≤ 1048576 := hs
  simp only at *
  have HA := Lib.hid hA
  have HB := Lib.hid hB
  have HR := Lib.hid hr
  have HM := Lib.hid ((h.alloc (.cells #[.bool cut, nE k, .slice B cb.length capB] 118)).nilRow 5 1)
  have HCL := Lib.hid (fun v => cut_h (P := Try.prog) 22 5 1 Try.underlying22 Try.sizeU8 A s.length capA k (by omega) v)
  have HKL := Lib.hid (show (s.take k).length = k by rw [List.length_take]; omega)
  clear hA hB hc hs h hr
  go_enter Try.func92, Try.ntmps92
  go_upto_region 1 with (fail)
  generalize w.alloc (.cells #[.bool cut, nE k, .slice B cb.length capB] 118) = u at HM ⊢
  generalize w.heap.size = g at HM ⊢
  have k0 : u.cell? ⟨g, 0, none⟩ = some (.bool cut) := (HM.out.ob 1 rfl).cell 0 rfl
  have k1 : u.cell? ⟨g, 1, none⟩ = some (nE k) := (HM.out.ob 1 rfl).cell 1 rfl
  have HRT := Lib.hid (show Rd u A ((s.take k).map bv) by have h := (HA.out u HM.out.drop.drop).take k; rw [← List.map_take] at h; exact h)
  have s1 := HCL.out u
  cases cut with
  | true =>
    have E := Lib.hid (show r = s.take k by rw [HR.out]; unfold chDo; simp)
    go_wp2_with (at_builtin; go_must (refine append_row rfl _ _ 22 5 (.int .u8 0) 1 1 rfl Try.underlying22 Try.infoU8 rfl (by decide) 0 (HM.out.app 0 rfl) (by rfl) (by rfl) HRT.out (by rw [List.length_map, HKL.out]; omega) (bv_all _) (by omega) (by omega) (Nat.zero_le _) ?_); intro v1 w1 hown1 hgr1 hat1; obtain ⟨A1, c1, rfl, hc1⟩ := hown1.slice)
    go_ret
    have M1 := HM.out.grow 0 rfl hown1 hgr1 hat1
    rw [List.nil_append, Nat.zero_add] at M1
    rw [E.out, HKL.out]
    exact ⟨A1, c1, rfl, (M1.bring 1).drop⟩
  | false =>
    go_upto_region 5 with (at_builtin; go_must (refine append_row rfl _ _ 22 5 (.int .u8 0) 1 1 rfl Try.underlying22 Try.infoU8 rfl (by decide) 0 (HM.out.app 0 rfl) (by rfl) (by rfl) HRT.out (by rw [List.length_map, HKL.out]; omega) (bv_all _) (by omega) (by omega) (Nat.zero_le _) ?_); intro v1 w1 hown1 hgr1 hat1; obtain ⟨A1, c1, rfl, hc1⟩ := hown1.slice)
    have M1 := HM.out.grow 0 rfl hown1 hgr1 hat1
    rw [List.nil_append, Nat.zero_add] at M1
    have HM1 := Lib.hid M1
    have k1 : w1.cell? ⟨g, 1, none⟩ = some (nE k) := (HM1.out.ob 1 rfl).cell 1 rfl
    have k2 : w1.cell? ⟨g, 2, none⟩ = some (.slice B cb.length capB) := (HM1.out.ob 1 rfl).cell 2 rfl
    have HRB := Lib.hid (HB.out w1 HM1.out.drop.drop)
    clear M1 hown1 hgr1 hat1 HM HRT k0 s1
    go_upto_region 6 with (at_builtin; go_must (refine append_row rfl _ _ 22 5 (.int .u8 0) 1 1 rfl Try.underlying22 Try.infoU8 rfl (by decide) 0 (HM1.out.app 0 rfl) (by rfl) (by rfl) HRB.out (by simp) (bv_all _) (by omega) (by omega) (Nat.zero_le _) ?_); intro v2 w2 hown2 hgr2 hat2; obtain ⟨A2, c2, rfl, hc2⟩ := hown2.slice)
    have M2 := HM1.out.grow 0 rfl hown2 hgr2 hat2
    rw [← List.map_append] at M2
    have HM2 := Lib.hid M2
    have k1 : w2.cell? ⟨g, 1, none⟩ = some (nE k) := (HM2.out.ob 1 rfl).cell 1 rfl
    have k2 : w2.cell? ⟨g, 2, none⟩ = some (.slice B cb.length capB) := (HM2.out.ob 1 rfl).cell 2 rfl
    clear M2 hown2 hgr2 hat2 HM1 HRB
    by_cases hlt : k + cb.length < s.length
    · have E := Lib.hid (show r = s.take k ++ cb ++ s.drop (k + cb.length) by rw [HR.out]; unfold chDo; simp)
      have i1 : (k : Int) + (cb.length : Int) < (s.length : Int) := by omega
      have HDL := Lib.hid (show (s.drop (k + cb.length)).length = s.length - (k + cb.length) by rw [List.length_drop])
      obtain ⟨ba, oa, rfl, _⟩ := HA.out w2 HM2.out.drop.drop (by intro e; have := congrArg List.length e; rw [List.length_map, List.length_nil] at this; omega)
      have HRD := Lib.hid (show Rd w2 (some ⟨ba, oa + (k + cb.length), none⟩) ((s.drop (k + cb.length)).map bv) by
        have h := (HA.out w2 HM2.out.drop.drop).drop (k + cb.length)
        rw [← List.map_drop] at h
        exact h)
      go_wp2_with (at_builtin; go_must (refine append_row rfl _ _ 22 5 (.int .u8 0) 1 1 rfl Try.underlying22 Try.infoU8 rfl (by decide) 0 (HM2.out.app 0 rfl) (by rfl) (by rfl) HRD.out (by rw [List.length_map, HDL.out]; omega) (bv_all _) (by omega) (by omega) (Nat.zero_le _) ?_); intro v3 w3 hown3 hgr3 hat3; obtain ⟨A3, c3, rfl, hc3⟩ := hown3.slice)
      go_ret
      have M3 := HM2.out.grow 0 rfl hown3 hgr3 hat3
      rw [← List.map_append, ← E.out] at M3
      have hl : k + cb.length + (s.length - (k + cb.length)) = r.length := by rw [E.out, List.length_append, List.length_append, HKL.out, HDL.out]
      rw [hl] at M3
      exact ⟨A3, c3, by rw [← hl]; rfl, (M3.bring 1).drop⟩
    · have E := Lib.hid (show r = s.take k ++ cb by rw [HR.out]; unfold chDo; simp; omega)
      have i1 : ¬ ((k : Int) + (cb.length : Int) < (s.length : Int)) := by omega
      go_wp2_with fail
      go_ret
      have M3 := HM2.out
      rw [← E.out] at M3
      have hl : k + cb.length = r.length := by rw [E.out, List.length_append, HKL.out]
      rw [hl] at M3
      exact ⟨A2, c2, by rw [← hl]; rfl, (M3.bring 1).drop⟩
end Go.Proofs.Ythphonkiolmkiaa
