/- Texts of the claim NodeMaps, part 8: DeedD, DeedE, DeedF, DeedG, NodeM, NodeY, NodeMx, Lib5, DeedO, NodeO2. -/
import Derived.Test.YtedmamchfgkkfaaGNodeMaps3
import Derived.Lib.SlBytesConst
import Derived.Test.YtedmamchfgkkfaaGNodeMaps7
import Derived.Test.YtedmamchfgkkfaaGNodeMaps6
import Derived.Test.YtedmamchfgkkfaaGNodeMaps1
import Derived.Deep.Slices
import Derived.Deep.Fields
import Derived.ChangeSame
import Derived.SizedLaws
/- Layer 22 (deed) walked: Get. -/
namespace Go.Proofs.Ytedmamchfgkkfaa
open Go.RowKit
set_option maxRecDepth 100000
set_option maxHeartbeats 2000000

structure DeedR where
  k : Int
  id : Int
  n : Int
  row : List UInt8
  e : Int
def deedNo (e : Int) : DeedR := ⟨0, 0, 0, [], e⟩
def deedGet (b : List UInt8) : DeedR :=
  if b = [] then deedNo 4 else if (took b 1 0 65504).e ≠ 0 then deedNo (took b 1 0 65504).e
  else if (took b 1 0 65504).p ≠ b.length ∨ 65536 < (took b 1 0 65504).n then deedNo 5
  else if deedMay (b.getD 0 0).toNat (took b 1 0 65504).id (took b 1 0 65504).n (took b 1 0 65504).row.length = false then deedNo 5
  else ⟨(b.getD 0 0).toNat, (took b 1 0 65504).id, (took b 1 0 65504).n, (took b 1 0 65504).row, 0⟩
def RetDeed (r : DeedR) (w : World) (e : Ending) (w' : World) : Prop :=
  ∃ B, e = .returned (.tuple #[deedV r.k r.id r.n B r.row.length r.row.length, .int .i64 r.e]) ∧ App w' w.heap.size 5 1 (.slice B r.row.length r.row.length) r.row.length (r.row.map bv) ∧ Bl w w'
theorem RetDeed.no {r : DeedR} {w w' : World} {e : Int} (h : r = deedNo e) (hb : Bl w w') : RetDeed r w (.returned (.tuple #[deedV 0 0 0 none 0 0, .int .i64 e])) w' := by
  subst h; exact ⟨none, rfl, App.nil _ _ _ _, hb⟩
theorem Try.sizeDeed : (Try.prog.info? 26).map (·.size) = some 4 := by kernel_rfl
theorem took_facts (b : List UInt8) (p e most : Int) : 0 ≤ (took b p e most).id ∧ (took b p e most).id < 18446744073709551616 ∧ 0 ≤ (took b p e most).n ∧ (took b p e most).n < 18446744073709551616 := by
  have key : ∀ q f, 0 ≤ (rdNum b q f).1 ∧ (rdNum b q f).1 < 18446744073709551616 := by
    intro q f
    unfold rdNum
    split
    · simp
    · rcases lebGet_or b q with ⟨g, h, hg, _⟩ | ⟨v, m, h, hv, _⟩
      · rw [h, if_neg hg]; simp
      · rw [h, if_pos rfl]; simp only; omega
  have h1 := key p e
  have h2 := key (rdNum b p e).2.1 (rdNum b p e).2.2
  exact ⟨h1.1, h1.2, h2.1, h2.2⟩

theorem took_len (b : List UInt8) (hb : b.length ≤ 140737488351232) : (took b 1 0 65504).row.length ≤ 281474976710656 := by
  have key : ∀ p e, (rdRow b p e 65504).1.length ≤ b.length := by
    intro p e
    unfold rdRow
    split
    · simp
    · rcases lebRow_or b p 65504 with ⟨f, h, hf, _⟩ | ⟨xs, m, h, h1, h2, h3⟩
      · rw [h, if_neg hf]; simp
      · rw [h, if_pos rfl]; exact h3
  exact Nat.le_trans (key _ _) (by omega)
theorem deed_Get (A : Option Addr) (c : Nat) (b : List UInt8) (w : World) (hb : b.length ≤ 140737488351232) (hcb : b.length ≤ c) (hr : Rd w A (b.map bv)) :
    Calls Try.prog 21 #[.slice A b.length c] w (RetDeed (deedGet b) w) := by
  have hmf : ∀ (fn : Fn) (first cap : Array Value) (w : World), (Instr.makeFunc fn first cap).run Try.prog w = .ok (.func fn first cap) w := fun _ _ _ _ => rfl
  by_cases hnil : b = []
  · have HP := Lib.hid (show deedGet b = deedNo 4 by unfold deedGet; rw [if_pos hnil])
    have hl : ((b.length : Int) == 0) = true := by subst hnil; rfl
    have hl2 : b.length = 0 := by subst hnil; rfl
    clear hnil hr
    go_enter Try.func21, Try.ntmps21
    go_wp2_with fail
    refine bodyPost_ret (v := .tuple #[deedV 0 0 0 none 0 0, .int .i64 4]) (results_ct rfl _ _ (Ob.new w _ 26) rfl rfl Try.underlying26 rfl Try.sizeDeed) rfl ?_
    exact RetDeed.no HP.out ((Bl.refl w).alloc _)
  · have hl : ((b.length : Int) == 0) = false := by rw [beq_eq_false_iff_ne]; have := List.length_pos_iff.2 hnil; omega
    have hpos := List.length_pos_iff.2 hnil
    have HR := Lib.hid hr
    have HAP := Lib.hid (hr.apart (by simpa using hnil))
    have HD := Lib.hid (show deedGet b = _ from by unfold deedGet; rw [if_neg hnil])
    clear hnil hr
    generalize ht : took b 1 0 65504 = t at HD
    have HT := Lib.hid ht
    clear ht
    go_enter Try.func21, Try.ntmps21
    go_wp2_with fail
    have HW3 := Lib.hid (((Bl.refl w).alloc (.cells #[.int .u8 0, .int .u64 0, .int .i64 0, .slice none 0 0] 26)).alloc (.cells #[.slice A b.length c, .int .i64 1, .int .i64 0] 85) |>.alloc (.cells #[.pointer (some ⟨w.heap.size + 1, 0, none⟩)] 83))
    have oV : Ob (((w.alloc (.cells #[.int .u8 0, .int .u64 0, .int .i64 0, .slice none 0 0] 26)).alloc (.cells #[.slice A b.length c, .int .i64 1, .int .i64 0] 85)).alloc (.cells #[.pointer (some ⟨w.heap.size + 1, 0, none⟩)] 83)) (w.heap.size + 1 + 1) 83 #[.pointer (some ⟨w.heap.size + 1, 0, none⟩)] := by
      have := Ob.new ((w.alloc (.cells #[.int .u8 0, .int .u64 0, .int .i64 0, .slice none 0 0] 26)).alloc (.cells #[.slice A b.length c, .int .i64 1, .int .i64 0] 85)) #[.pointer (some ⟨w.heap.size + 1, 0, none⟩)] 83
      simpa using this
    have oR : Ob (((w.alloc (.cells #[.int .u8 0, .int .u64 0, .int .i64 0, .slice none 0 0] 26)).alloc (.cells #[.slice A b.length c, .int .i64 1, .int .i64 0] 85)).alloc (.cells #[.pointer (some ⟨w.heap.size + 1, 0, none⟩)] 83)) (w.heap.size + 1) 85 #[.slice A b.length c, .int .i64 1, .int .i64 0] := by
      have := (Ob.new (w.alloc (.cells #[.int .u8 0, .int .u64 0, .int .i64 0, .slice none 0 0] 26)) #[.slice A b.length c, .int .i64 1, .int .i64 0] 85).bl ((Bl.refl _).alloc (.cells #[.pointer (some ⟨w.heap.size + 1, 0, none⟩)] 83))
      simpa using this
    have oD : Ob (((w.alloc (.cells #[.int .u8 0, .int .u64 0, .int .i64 0, .slice none 0 0] 26)).alloc (.cells #[.slice A b.length c, .int .i64 1, .int .i64 0] 85)).alloc (.cells #[.pointer (some ⟨w.heap.size + 1, 0, none⟩)] 83)) w.heap.size 26 #[.int .u8 0, .int .u64 0, .int .i64 0, .slice none 0 0] :=
      (Ob.new w #[.int .u8 0, .int .u64 0, .int .i64 0, .slice none 0 0] 26).bl (((Bl.refl _).alloc _).alloc _)
    refine (deed_Get1 (w.heap.size + 1 + 1) (w.heap.size + 1) A c b 1 0 _ hb hcb (by unfold Hid; omega) (HR.out.bl HW3.out) (fun a ha => by have := HAP.out a ha; omega) (by omega) oV oR).mono ?_
    rintro e w3 ⟨B, rfl, hown, hob, hch⟩
    have hf := took_facts b 1 0 65504
    rw [HT.out] at hown hob hf
    rw [HT.out]
    have hv3 := oV.ch hch (by simp)
    have hd3 := oD.ch hch (by simp)
    have HV := Lib.hid hv3
    have HDD := Lib.hid hd3
    have v0 := hv3.cell 0 rfl
    have r0 := hob.cell 0 rfl
    have r1 := hob.cell 1 rfl
    have r2 := hob.cell 2 rfl
    have hbl : Bl w w3 := (HW3.out.ch [w.heap.size + 1]).same hch |>.bl (by simp)
    have HB := Lib.hid hbl
    have HOW := Lib.hid (hown.mono (by simp; omega : w.heap.size ≤ _))
    have HF := Lib.hid hf
    have HOR := Lib.hid hob
    have HLEN := Lib.hid (show t.row.length ≤ 281474976710656 by rw [← HT.out]; exact took_len b hb)
    clear hch hown oV oR oD hbl hv3 hob hf
    by_cases hte : t.e = 0
    · have te1 : (t.e != 0) = false := by simpa using hte
      have HD2 := Lib.hid (HD.out.trans (if_neg (by simpa using hte)))
      have hn0 : 0 ≤ t.n := HF.out.2.2.1
      clear HD hte
      by_cases hbad : t.p ≠ b.length ∨ 65536 < t.n
      · have HP := Lib.hid (HD2.out.trans (if_pos hbad))
        have d0 := hd3.cell 0 rfl
        have d1 := hd3.cell 1 rfl
        have d2 := hd3.cell 2 rfl
        have d3 := hd3.cell 3 rfl
        have f0 := hd3.free 0
        have f1 := hd3.free 1
        have f2 := hd3.free 2
        have f3 := hd3.free 3
        clear hd3
        by_cases hpb : t.p = b.length
        · have b1 : (t.p != (b.length : Int)) = false := by simpa using hpb
          have hn : 65536 < t.n := by rcases hbad with h | h; exact absurd hpb h; exact h
          clear hbad hpb
          go_wp2_with fail
          refine bodyPost_ret (v := .tuple #[deedV 0 0 0 none 0 0, .int .i64 5]) (results_ct rfl _ _ (HDD.out.set4 _ _ _ _).1 rfl rfl Try.underlying26 rfl Try.sizeDeed) rfl ?_
          exact RetDeed.no HP.out ((HB.out.ch [w.heap.size]).same (HDD.out.set4 _ _ _ _).2 |>.bl (by simp))
        · have b1 : (t.p != (b.length : Int)) = true := by simpa using hpb
          clear hbad hpb
          go_wp2_with fail
          refine bodyPost_ret (v := .tuple #[deedV 0 0 0 none 0 0, .int .i64 5]) (results_ct rfl _ _ (HDD.out.set4 _ _ _ _).1 rfl rfl Try.underlying26 rfl Try.sizeDeed) rfl ?_
          exact RetDeed.no HP.out ((HB.out.ch [w.heap.size]).same (HDD.out.set4 _ _ _ _).2 |>.bl (by simp))
      · have HD3 := Lib.hid (HD2.out.trans (if_neg hbad))
        have b1 : (t.p != (b.length : Int)) = false := by simp; omega
        have hn : t.n ≤ 65536 := by omega
        obtain ⟨x, hx⟩ := get_some b 0 hpos
        have hx0 : b.getD 0 0 = x := by simp [List.getD_eq_getElem?_getD, hx]
        rw [hx0] at HD3
        obtain ⟨Ab, Ao, rfl, hcx⟩ := (HR.out.bl HB.out).get hx
        rw [Nat.add_zero] at hcx
        have hwn : wrap64 t.n = t.n := by unfold wrap64; omega
        clear hbad hx hx0 HD2 hd3
        simp only [bv] at hcx
        cases hmay : deedMay x.toNat t.id t.n t.row.length
        · have HMAY := Lib.hid hmay
          have HP := Lib.hid (HD3.out.trans (if_pos hmay))
          clear hmay
          go_wp2_with (first
            | (go_at_call 15; go_must (refine (deed_May _ t.id t.n B t.row.length t.row.length _ HLEN.out).mono ?_); rintro e w4 ⟨rfl, hbl4⟩; rw [HMAY.out]; have hb4 := Bl.trans ((Bl.refl w3).alloc _) hbl4; have hD4 := Lib.hid (Ob.bl HDD.out hb4); obtain ⟨d0, d1, d2, d3, f0, f1, f2, f3⟩ := Ob.all4 hD4.out))
          refine bodyPost_ret (v := .tuple #[deedV 0 0 0 none 0 0, .int .i64 5]) (results_ct rfl _ _ (hD4.out.set4 _ _ _ _).1 rfl rfl Try.underlying26 rfl Try.sizeDeed) rfl ?_
          exact RetDeed.no HP.out (((HB.out.trans hb4).ch [w.heap.size]).same (hD4.out.set4 _ _ _ _).2 |>.bl (by simp))
        · have HMAY := Lib.hid hmay
          have HP := Lib.hid (HD3.out.trans (if_neg (by rw [hmay]; simp)))
          clear hmay
          go_wp2_with (first
            | (go_at_call 15; go_must (refine (deed_May _ t.id t.n B t.row.length t.row.length _ HLEN.out).mono ?_); rintro e w4 ⟨rfl, hbl4⟩; rw [HMAY.out]; have hb4 := Bl.trans ((Bl.refl w3).alloc _) hbl4; have hD4 := Lib.hid (Ob.bl HDD.out hb4); obtain ⟨d0, d1, d2, d3, f0, f1, f2, f3⟩ := Ob.all4 hD4.out; obtain ⟨g0, g1, g2, g3, _⟩ := Ob.all4 (Ob.bl (Ob.new w3 _ 26) hbl4)))
          refine bodyPost_ret (v := .tuple #[deedV x.toNat t.id t.n B t.row.length t.row.length, .int .i64 0]) (results_ct rfl _ _ (hD4.out.set4 _ _ _ _).1 rfl rfl Try.underlying26 rfl Try.sizeDeed) rfl ?_
          unfold RetDeed
          rw [HP.out]
          refine ⟨B, rfl, App.ch (HOW.out.bl hb4) (hD4.out.set4 _ _ _ _).2 (fun g hg => by simp at hg; subst hg; exact hD4.out.app (HOW.out.bl hb4) (by decide)), ((HB.out.trans hb4).ch [w.heap.size]).same (hD4.out.set4 _ _ _ _).2 |>.bl (by simp)⟩
    · have te1 : (t.e != 0) = true := by simpa using hte
      have HP := Lib.hid (show deedGet b = deedNo t.e by rw [HD.out, if_pos hte])
      have d0 := hd3.cell 0 rfl
      have d1 := hd3.cell 1 rfl
      have d2 := hd3.cell 2 rfl
      have d3 := hd3.cell 3 rfl
      have f0 := hd3.free 0
      have f1 := hd3.free 1
      have f2 := hd3.free 2
      have f3 := hd3.free 3
      clear hte hd3
      go_wp2_with fail
      go_region
      go_wp2_with fail
      refine bodyPost_ret (v := .tuple #[deedV 0 0 0 none 0 0, .int .i64 t.e]) (results_ct rfl _ _ (Ob.bl (HDD.out.set4 _ _ _ _).1 (Bl.refl _).drew) rfl rfl Try.underlying26 rfl Try.sizeDeed) rfl ?_
      exact RetDeed.no HP.out (Bl.drew ((HB.out.ch [w.heap.size]).same (HDD.out.set4 _ _ _ _).2 |>.bl (by simp)))
end Go.Proofs.Ytedmamchfgkkfaa
/- The reference of layer 22 walked: Get. -/
namespace Go.Proofs.Ytedmamchfgkkfaa
open Go.RowKit
set_option maxRecDepth 100000
set_option maxHeartbeats 2000000

def RetDeedR (r : DeedR) (w : World) (e : Ending) (w' : World) : Prop :=
  ∃ B c, e = .returned (.tuple #[deedV r.k r.id r.n B r.row.length c, .int .i64 r.e]) ∧ App w' w.heap.size 5 1 (.slice B r.row.length c) r.row.length (r.row.map bv) ∧ Bl w w'
theorem RetDeedR.no {r : DeedR} {w w' : World} {e : Int} (h : r = deedNo e) (hb : Bl w w') : RetDeedR r w (.returned (.tuple #[deedV 0 0 0 none 0 0, .int .i64 e])) w' := by
  subst h; exact ⟨none, 0, rfl, App.nil _ _ _ _, hb⟩
theorem rdNum_err (b : List UInt8) (p e : Int) (h : e ≠ 0) : rdNum b p e = (0, p, e) := by unfold rdNum; rw [if_pos h]
theorem rdNum_no {b : List UInt8} {p e : Int} (hg : lebGet b p = (0, 0, e)) (h : e ≠ 0) : rdNum b p 0 = (0, p, e) := by unfold rdNum; rw [if_neg (by simp), hg, if_neg h]
theorem rdNum_ok {b : List UInt8} {p v m : Int} (hg : lebGet b p = (v, m, 0)) : rdNum b p 0 = (v, m, 0) := by unfold rdNum; rw [if_neg (by simp), hg, if_pos rfl]
theorem rdRow_err (b : List UInt8) (p e most : Int) (h : e ≠ 0) : rdRow b p e most = ([], p, e) := by unfold rdRow; rw [if_pos h]
theorem rdRow_no {b : List UInt8} {p e most m : Int} {xs : List UInt8} (hg : lebRow b p most = (xs, m, e)) (h : e ≠ 0) : rdRow b p 0 most = ([], p, e) := by unfold rdRow; rw [if_neg (by simp), hg, if_neg h]
theorem rdRow_ok {b : List UInt8} {p m most : Int} {xs : List UInt8} (hg : lebRow b p most = (xs, m, 0)) : rdRow b p 0 most = (xs, m, 0) := by unfold rdRow; rw [if_neg (by simp), hg, if_pos rfl]
theorem took_1 {b : List UInt8} {e : Int} (h : lebGet b 1 = (0, 0, e)) (hne : e ≠ 0) : (took b 1 0 65504).e = e := by
  simp only [took, rdNum_no h hne, rdNum_err _ _ _ hne, rdRow_err _ _ _ _ hne]
theorem took_2 {b : List UInt8} {v m e : Int} (h : lebGet b 1 = (v, m, 0)) (h2 : lebGet b m = (0, 0, e)) (hne : e ≠ 0) : (took b 1 0 65504).e = e := by
  simp only [took, rdNum_ok h, rdNum_no h2 hne, rdRow_err _ _ _ _ hne]
theorem took_3 {b : List UInt8} {v m v2 m2 m3 e : Int} {xs : List UInt8} (h : lebGet b 1 = (v, m, 0)) (h2 : lebGet b m = (v2, m2, 0)) (h3 : lebRow b m2 65504 = (xs, m3, e)) (hne : e ≠ 0) : (took b 1 0 65504).e = e := by
  simp only [took, rdNum_ok h, rdNum_ok h2, rdRow_no h3 hne]
theorem took_4 {b : List UInt8} {v m v2 m2 m3 : Int} {xs : List UInt8} (h : lebGet b 1 = (v, m, 0)) (h2 : lebGet b m = (v2, m2, 0)) (h3 : lebRow b m2 65504 = (xs, m3, 0)) : took b 1 0 65504 = ⟨v, v2, xs, m3, 0⟩ := by
  simp only [took, rdNum_ok h, rdNum_ok h2, rdRow_ok h3]
theorem ref_GetRow_at (A : Option Addr) (c : Nat) (b : List UInt8) (p most : Int) (xs : List UInt8) (m e : Int) (w : World) (hb : b.length ≤ 140737488351232) (hc : b.length ≤ c) (hm : -9223372036854775808 ≤ most ∧ most ≤ 9223372036854775807) (hr : Rd w A (b.map bv)) (h : lebRow b p most = (xs, m, e)) :
    Calls Try.prog 66 #[.slice A b.length c, .int .i64 p, .int .i64 most] w fun e' w' => ∃ B d, e' = .returned (.tuple #[.slice B xs.length d, .int .i64 m, .int .i64 e]) ∧ App w' w.heap.size 5 1 (.slice B xs.length d) xs.length (xs.map bv) ∧ Bl w w' := by
  refine (ref_GetRow A c b p most w hb hc hm hr).mono ?_
  rintro e' w' ⟨v, h1, h2, h3⟩
  rw [h] at h1 h2
  obtain ⟨B, d, rfl, _⟩ := h2.slice
  exact ⟨B, d, h1, h2, h3⟩

theorem ref_deedGet (A : Option Addr) (c : Nat) (b : List UInt8) (w : World) (hb : b.length ≤ 140737488351232) (hcb : b.length ≤ c) (hr : Rd w A (b.map bv)) :
    Calls Try.prog 22 #[.slice A b.length c] w (RetDeedR (deedGet b) w) := by
  by_cases hnil : b = []
  · have HP := Lib.hid (show deedGet b = deedNo 4 by unfold deedGet; rw [if_pos hnil])
    have hl : ((b.length : Int) == 0) = true := by subst hnil; rfl
    have hl2 : b.length = 0 := by subst hnil; rfl
    clear hnil hr
    go_enter Try.func22, Try.ntmps22
    go_wp2_with fail
    refine bodyPost_ret (v := .tuple #[deedV 0 0 0 none 0 0, .int .i64 4]) (results_ct rfl _ _ (Ob.new w _ 26) rfl rfl Try.underlying26 rfl Try.sizeDeed) rfl ?_
    exact RetDeedR.no HP.out ((Bl.refl w).alloc _)
  have hl : ((b.length : Int) == 0) = false := by rw [beq_eq_false_iff_ne]; have := List.length_pos_iff.2 hnil; omega
  have hpos := List.length_pos_iff.2 hnil
  have HR := Lib.hid hr
  have HW := Lib.hid ((Bl.refl w).alloc (.cells #[.int .u8 0, .int .u64 0, .int .i64 0, .slice none 0 0] 26))
  have HD0 := Lib.hid (Ob.new w #[.int .u8 0, .int .u64 0, .int .i64 0, .slice none 0 0] 26)
  rcases lebGet_or b 1 with ⟨e, h, hne, _⟩ | ⟨v1, m1, h, hv1, hm1, _⟩
  · have hP : deedGet b = deedNo e := by
      have ht : (took b 1 0 65504).e = e := took_1 h hne
      unfold deedGet; rw [if_neg hnil, ht, if_pos hne]
    have HP := Lib.hid hP
    have H := Lib.hid h
    have he1 : (e != 0) = true := by simpa using hne
    clear h hne hP hnil hr
    go_enter Try.func22, Try.ntmps22
    go_wp2_with (first | (go_at_call 65; go_must (refine (ref_Get_at A c b 1 _ _ _ _ hb (HR.out.bl HW.out) H.out).mono ?_); rintro e w' ⟨rfl, n, rfl⟩))
    refine bodyPost_ret (v := .tuple #[deedV 0 0 0 none 0 0, .int .i64 e]) (results_ct rfl _ _ ((Ob.bl HD0.out ((Bl.refl _).drewN _)).set4 _ _ _ _).1 rfl rfl Try.underlying26 rfl Try.sizeDeed) rfl ?_
    exact RetDeedR.no HP.out (((HW.out.drewN _).ch [w.heap.size]).same ((Ob.bl HD0.out ((Bl.refl _).drewN _)).set4 _ _ _ _).2 |>.bl (by simp))
  have H1 := Lib.hid h
  rcases lebGet_or b m1 with ⟨e, h2, hne, _⟩ | ⟨v2, m2, h2, hv2, hm2, _⟩
  · have hP : deedGet b = deedNo e := by
      have ht : (took b 1 0 65504).e = e := took_2 h h2 hne
      unfold deedGet; rw [if_neg hnil, ht, if_pos hne]
    have HP := Lib.hid hP
    have H2 := Lib.hid h2
    have he1 : (e != 0) = true := by simpa using hne
    clear h h2 hne hP hnil hr hv1
    go_enter Try.func22, Try.ntmps22
    go_wp2_with fail
    refine (ref_Get_at A c b 1 _ _ _ _ hb (HR.out.bl HW.out) H1.out).mono ?_
    rintro e' w' ⟨rfl, n, rfl⟩
    go_wp2_with fail
    refine (ref_Get_at A c b m1 _ _ _ _ hb (HR.out.bl (HW.out.drewN n)) H2.out).mono ?_
    rintro e' w' ⟨rfl, n2, rfl⟩
    go_wp2_with fail
    refine bodyPost_ret (v := .tuple #[deedV 0 0 0 none 0 0, .int .i64 e]) (results_ct rfl _ _ ((Ob.bl HD0.out ((Bl.refl _).drewN _)).set4 _ _ _ _).1 rfl rfl Try.underlying26 rfl Try.sizeDeed) rfl ?_
    exact RetDeedR.no HP.out (((HW.out.drewN _).ch [w.heap.size]).same ((Ob.bl HD0.out ((Bl.refl _).drewN _)).set4 _ _ _ _).2 |>.bl (by simp))
  have H2 := Lib.hid h2
  have hX : ∃ (xs : List UInt8) (m e : Int), lebRow b m2 65504 = (xs, m, e) ∧ (e ≠ 0 → xs = []) ∧ xs.length ≤ b.length := by
    rcases lebRow_or b m2 65504 with ⟨e, h, _⟩ | ⟨xs, m, h, _, _, hx⟩
    · exact ⟨[], 0, e, h, fun _ => rfl, by simp⟩
    · exact ⟨xs, m, 0, h, fun h => absurd rfl h, hx⟩
  obtain ⟨xs, m3, e3, h3, hnil3, hxl⟩ := hX
  have H3 := Lib.hid h3
  by_cases hne : e3 = 0
  case neg =>
    have hP : deedGet b = deedNo e3 := by
      have ht : (took b 1 0 65504).e = e3 := took_3 h h2 h3 hne
      unfold deedGet; rw [if_neg hnil, ht, if_pos hne]
    have HP := Lib.hid hP
    have he1 : (e3 != 0) = true := by simpa using hne
    clear h h2 h3 hne hP hnil hr hv1 hv2 hnil3
    go_enter Try.func22, Try.ntmps22
    go_wp2_with fail
    refine (ref_Get_at A c b 1 _ _ _ _ hb (HR.out.bl HW.out) H1.out).mono ?_
    rintro e' w' ⟨rfl, n, rfl⟩
    go_wp2_with fail
    refine (ref_Get_at A c b m1 _ _ _ _ hb (HR.out.bl (HW.out.drewN n)) H2.out).mono ?_
    rintro e' w' ⟨rfl, n2, rfl⟩
    go_wp2_with fail
    refine (ref_GetRow_at A c b m2 65504 _ _ _ _ hb hcb (by omega) (HR.out.bl (HW.out.drewN _)) H3.out).mono ?_
    rintro e' w3 ⟨B, d, rfl, hown, hbl⟩
    have hb3 : Bl w w3 := (HW.out.drewN _).trans hbl
    have hD := Lib.hid (HD0.out.bl (((Bl.refl _).drewN _).trans hbl))
    obtain ⟨d0, d1, d2, d3, f0, f1, f2, f3⟩ := Ob.all4 hD.out
    go_wp2_with fail
    refine bodyPost_ret (v := .tuple #[deedV 0 0 0 none 0 0, .int .i64 e3]) (results_ct rfl _ _ (hD.out.set4 _ _ _ _).1 rfl rfl Try.underlying26 rfl Try.sizeDeed) rfl ?_
    exact RetDeedR.no HP.out ((hb3.ch [w.heap.size]).same (hD.out.set4 _ _ _ _).2 |>.bl (by simp))
  subst hne
  obtain ⟨x, hx⟩ := get_some b 0 hpos
  have hx0 : b.getD 0 0 = x := by simp [List.getD_eq_getElem?_getD, hx]
  have hDG : deedGet b = if m3 ≠ b.length ∨ (65536 : Int) < v2 then deedNo 5 else if deedMay x.toNat v1 v2 xs.length = false then deedNo 5 else ⟨x.toNat, v1, v2, xs, 0⟩ := by
    have ht : took b 1 0 65504 = ⟨v1, v2, xs, m3, 0⟩ := took_4 h h2 h3
    unfold deedGet; rw [if_neg hnil, ht, if_neg (by simp), hx0]
  have HDG := Lib.hid hDG
  have HLEN := Lib.hid (show xs.length ≤ 281474976710656 by omega)
  obtain ⟨Ab, Ao, rfl, hcx⟩ := hr.get hx
  rw [Nat.add_zero] at hcx
  have HCX := Lib.hid hcx
  have HV1 := Lib.hid hv1
  clear h h2 h3 hDG hnil hr hv1 hv2 hnil3 hx hx0 hcx
  by_cases hbad : m3 ≠ b.length ∨ (65536 : Int) < v2
  · have HP := Lib.hid (HDG.out.trans (if_pos hbad))
    have hsplit : ((m3 != (b.length : Int)) = true) ∨ ((m3 != (b.length : Int)) = false ∧ (65536 : Int) < v2) := by
      by_cases hq : m3 = b.length
      · right; refine ⟨by simpa using hq, ?_⟩; rcases hbad with hb | hb; exact absurd hq hb; exact hb
      · left; simpa using hq
    clear hbad HDG
    rcases hsplit with hs | ⟨hs, hs2⟩
    all_goals
      go_enter Try.func22, Try.ntmps22
      go_wp2_with fail
      refine (ref_Get_at _ c b 1 _ _ _ _ hb (HR.out.bl HW.out) H1.out).mono ?_
      rintro e' w' ⟨rfl, n, rfl⟩
      go_wp2_with fail
      refine (ref_Get_at _ c b m1 _ _ _ _ hb (HR.out.bl (HW.out.drewN n)) H2.out).mono ?_
      rintro e' w' ⟨rfl, n2, rfl⟩
      go_wp2_with fail
      refine (ref_GetRow_at _ c b m2 65504 _ _ _ _ hb hcb (by omega) (HR.out.bl (HW.out.drewN _)) H3.out).mono ?_
      rintro e' w3 ⟨B, d, rfl, hown, hbl⟩
      have hb3 : Bl w w3 := (HW.out.drewN _).trans hbl
      have hD := Lib.hid (HD0.out.bl (((Bl.refl _).drewN _).trans hbl))
      obtain ⟨d0, d1, d2, d3, f0, f1, f2, f3⟩ := Ob.all4 hD.out
      go_wp2_with fail
      refine bodyPost_ret (v := .tuple #[deedV 0 0 0 none 0 0, .int .i64 5]) (results_ct rfl _ _ (hD.out.set4 _ _ _ _).1 rfl rfl Try.underlying26 rfl Try.sizeDeed) rfl ?_
      exact RetDeedR.no HP.out ((hb3.ch [w.heap.size]).same (hD.out.set4 _ _ _ _).2 |>.bl (by simp))
  · have HD3 := Lib.hid (HDG.out.trans (if_neg hbad))
    have hs : (m3 != (b.length : Int)) = false := by simp; omega
    have hn : v2 ≤ 65536 := by omega
    have hwn : wrap64 (v2 : Int) = v2 := by unfold wrap64; omega
    clear hbad HDG
    cases hmay : deedMay x.toNat v1 v2 xs.length
    · have HMAY := Lib.hid hmay
      have HP := Lib.hid (HD3.out.trans (if_pos hmay))
      clear hmay
      go_enter Try.func22, Try.ntmps22
      go_wp2_with fail
      refine (ref_Get_at _ c b 1 _ _ _ _ hb (HR.out.bl HW.out) H1.out).mono ?_
      rintro e' w' ⟨rfl, n, rfl⟩
      go_wp2_with fail
      refine (ref_Get_at _ c b m1 _ _ _ _ hb (HR.out.bl (HW.out.drewN n)) H2.out).mono ?_
      rintro e' w' ⟨rfl, n2, rfl⟩
      go_wp2_with fail
      refine (ref_GetRow_at _ c b m2 65504 _ _ _ _ hb hcb (by omega) (HR.out.bl (HW.out.drewN _)) H3.out).mono ?_
      rintro e' w3 ⟨B, d, rfl, hown, hbl⟩
      have HB := Lib.hid ((HW.out.drewN _).trans hbl)
      have HDD := Lib.hid (HD0.out.bl (((Bl.refl _).drewN _).trans hbl))
      have hcx := HB.out.cellAt HCX.out
      simp only [bv] at hcx
      clear hbl
      go_wp2_with (first
        | (go_at_call 16; go_must (refine (ref_deedMay _ _ _ B xs.length d _ HLEN.out).mono ?_); rintro e w4 ⟨rfl, hbl4⟩; rw [HMAY.out]; have hb4 := Bl.trans ((Bl.refl w3).alloc _) hbl4; have hD4 := Lib.hid (Ob.bl HDD.out hb4); obtain ⟨d0, d1, d2, d3, f0, f1, f2, f3⟩ := Ob.all4 hD4.out))
      refine bodyPost_ret (v := .tuple #[deedV 0 0 0 none 0 0, .int .i64 5]) (results_ct rfl _ _ (hD4.out.set4 _ _ _ _).1 rfl rfl Try.underlying26 rfl Try.sizeDeed) rfl ?_
      exact RetDeedR.no HP.out (((HB.out.trans hb4).ch [w.heap.size]).same (hD4.out.set4 _ _ _ _).2 |>.bl (by simp))
    · have HMAY := Lib.hid hmay
      have HP := Lib.hid (HD3.out.trans (if_neg (by rw [hmay]; simp)))
      clear hmay
      go_enter Try.func22, Try.ntmps22
      go_wp2_with fail
      refine (ref_Get_at _ c b 1 _ _ _ _ hb (HR.out.bl HW.out) H1.out).mono ?_
      rintro e' w' ⟨rfl, n, rfl⟩
      go_wp2_with fail
      refine (ref_Get_at _ c b m1 _ _ _ _ hb (HR.out.bl (HW.out.drewN n)) H2.out).mono ?_
      rintro e' w' ⟨rfl, n2, rfl⟩
      go_wp2_with fail
      refine (ref_GetRow_at _ c b m2 65504 _ _ _ _ hb hcb (by omega) (HR.out.bl (HW.out.drewN _)) H3.out).mono ?_
      rintro e' w3 ⟨B, d, rfl, hown, hbl⟩
      have HB := Lib.hid ((HW.out.drewN _).trans hbl)
      have HDD := Lib.hid (HD0.out.bl (((Bl.refl _).drewN _).trans hbl))
      have HOW := Lib.hid (hown.mono (by simp : w.heap.size ≤ _))
      have hcx := HB.out.cellAt HCX.out
      simp only [bv] at hcx
      clear hbl hown
      go_wp2_with (first
        | (go_at_call 16; go_must (refine (ref_deedMay _ _ _ B xs.length d _ HLEN.out).mono ?_); rintro e w4 ⟨rfl, hbl4⟩; rw [HMAY.out]; have hb4 := Bl.trans ((Bl.refl w3).alloc _) hbl4; have hD4 := Lib.hid (Ob.bl HDD.out hb4); obtain ⟨d0, d1, d2, d3, f0, f1, f2, f3⟩ := Ob.all4 hD4.out; obtain ⟨g0, g1, g2, g3, _⟩ := Ob.all4 (Ob.bl (Ob.new w3 _ 26) hbl4)))
      refine bodyPost_ret (v := .tuple #[deedV x.toNat v1 v2 B xs.length d, .int .i64 0]) (results_ct rfl _ _ (hD4.out.set4 _ _ _ _).1 rfl rfl Try.underlying26 rfl Try.sizeDeed) rfl ?_
      unfold RetDeedR
      rw [HP.out]
      refine ⟨B, d, rfl, App.ch (HOW.out.bl hb4) (hD4.out.set4 _ _ _ _).2 (fun g hg => by simp at hg; subst hg; exact hD4.out.app (HOW.out.bl hb4) (by decide)), ((HB.out.trans hb4).ch [w.heap.size]).same (hD4.out.set4 _ _ _ _).2 |>.bl (by simp)⟩
end Go.Proofs.Ytedmamchfgkkfaa
/- The reference of layer 22 walked: SameDeed. -/
namespace Go.Proofs.Ytedmamchfgkkfaa
open Go.RowKit
set_option maxRecDepth 100000
set_option maxHeartbeats 2000000

theorem ref_sameDeed (k id n k2 id2 n2 : Int) (A B : Option Addr) (c d : Nat) (xs ys : List UInt8) (w : World) (hl : xs.length ≤ 281474976710656) (hx : Rd w A (xs.map bv)) (hy : Rd w B (ys.map bv)) :
    Calls Try.prog 23 #[deedV k id n A xs.length c, deedV k2 id2 n2 B ys.length d] w (RetBl (decide (k = k2 ∧ id = id2 ∧ n = n2 ∧ xs = ys)) w) := by
  have HX := Lib.hid hx
  have HY := Lib.hid hy
  clear hx hy
  by_cases h1 : k = k2
  case neg =>
    have b1 : (k == k2) = false := by simpa using h1
    have HC := Lib.hid (show false = decide (k = k2 ∧ id = id2 ∧ n = n2 ∧ xs = ys) by simp [h1])
    clear h1
    go_enter Try.func23, Try.ntmps23
    go_wp2_with fail
    go_ret
    exact RetBl.mk HC.out (((Bl.refl w).alloc _).alloc _)
  by_cases h2 : id = id2
  case neg =>
    have b1 : (k == k2) = true := by simpa using h1
    have b2 : (id == id2) = false := by simpa using h2
    have HC := Lib.hid (show false = decide (k = k2 ∧ id = id2 ∧ n = n2 ∧ xs = ys) by simp [h2])
    clear h1 h2
    go_enter Try.func23, Try.ntmps23
    go_wp2_with fail
    go_ret
    exact RetBl.mk HC.out (((Bl.refl w).alloc _).alloc _)
  by_cases h3 : n = n2
  case neg =>
    have b1 : (k == k2) = true := by simpa using h1
    have b2 : (id == id2) = true := by simpa using h2
    have b3 : (n == n2) = false := by simpa using h3
    have HC := Lib.hid (show false = decide (k = k2 ∧ id = id2 ∧ n = n2 ∧ xs = ys) by simp [h3])
    clear h1 h2 h3
    go_enter Try.func23, Try.ntmps23
    go_wp2_with fail
    go_ret
    exact RetBl.mk HC.out (((Bl.refl w).alloc _).alloc _)
  have b1 : (k == k2) = true := by simpa using h1
  have b2 : (id == id2) = true := by simpa using h2
  have b3 : (n == n2) = true := by simpa using h3
  have HC := Lib.hid (show decide (xs = ys) = decide (k = k2 ∧ id = id2 ∧ n = n2 ∧ xs = ys) by simp [h1, h2, h3])
  clear h1 h2 h3
  go_enter Try.func23, Try.ntmps23
  go_wp2_with (first | (go_at_call 19; go_must (refine (same_calls A B c d xs ys _ hl (HX.out.bl (((Bl.refl w).alloc _).alloc _)) (HY.out.bl (((Bl.refl w).alloc _).alloc _))).mono ?_); rintro e w1 ⟨rfl, hdr⟩))
  go_ret
  exact RetBl.mk HC.out ((((Bl.refl w).alloc _).alloc _).trans (hdr.below _))
end Go.Proofs.Ytedmamchfgkkfaa
/- The law of layer 22 walked: lives. -/
namespace Go.Proofs.Ytedmamchfgkkfaa
open Go.RowKit
set_option maxRecDepth 100000
set_option maxHeartbeats 2000000

theorem lebPut_one (n : Nat) (h : n < 128) : lebPut n = [n.toUInt8] := by rw [lebPut, dif_pos h]
theorem lebPut_300 : lebPut 300 = [172, 2] := by
  rw [lebPut, dif_neg (by omega), lebPut_one _ (by omega)]; rfl
theorem live_put1 : deedPut 1 0 0 [97, 98] = ([1, 0, 0, 2, 97, 98], 0) := by
  simp [deedPut, deedMay, deedBytes, lebRowPut, lebPut_one]
theorem live_put2 : deedPut 5 300 2 [] = ([5, 172, 2, 2, 0], 0) := by
  simp [deedPut, deedMay, deedBytes, lebRowPut, lebPut_one, lebPut_300]
theorem live_get : deedGet [5, 172, 2, 2, 0] = ⟨5, 300, 2, [], 0⟩ := by
  rfl
theorem live_call1 (A : Option Addr) (w : World) (hr : Rd w A (([97, 98] : List UInt8).map bv)) :
    Calls Try.prog 13 #[deedV 1 0 0 A 2 2] w fun e w' => ∃ B c, e = .returned (.tuple #[.slice B 6 c, .int .i64 0]) ∧ App w' w.heap.size 5 1 (.slice B 6 c) 6 (([1, 0, 0, 2, 97, 98] : List UInt8).map bv) ∧ Bl w w' := by
  have h := deed_Put 1 0 0 A [97, 98] 2 w (by simp) (by omega) (by unfold Hid; omega) hr
  rw [live_put1] at h
  refine h.mono ?_
  rintro e w1 ⟨v1, rfl, hown1, hbl1⟩
  obtain ⟨A1, c1, rfl, hcc1⟩ := hown1.slice
  exact ⟨A1, c1, rfl, hown1, hbl1⟩
theorem live_call2 (w : World) :
    Calls Try.prog 13 #[deedV 5 300 2 none 0 0] w fun e w' => ∃ B c, e = .returned (.tuple #[.slice B 5 c, .int .i64 0]) ∧ App w' w.heap.size 5 1 (.slice B 5 c) 5 (([5, 172, 2, 2, 0] : List UInt8).map bv) ∧ Bl w w' := by
  have h := deed_Put 5 300 2 none [] 0 w (by simp) (by omega) (by unfold Hid; omega) (Rd.nil _ _)
  rw [live_put2] at h
  refine h.mono ?_
  rintro e w1 ⟨v1, rfl, hown1, hbl1⟩
  obtain ⟨A1, c1, rfl, hcc1⟩ := hown1.slice
  exact ⟨A1, c1, rfl, hown1, hbl1⟩
theorem live_call3 (A : Option Addr) (c : Nat) (w w0 : World) (base : Nat) (h : App w0 base 5 1 (.slice A 5 c) 5 (([5, 172, 2, 2, 0] : List UInt8).map bv)) (hb : Bl w0 w) :
    Calls Try.prog 21 #[.slice A 5 c] w fun e w' => ∃ B, e = .returned (.tuple #[deedV 5 300 2 B 0 0, .int .i64 0]) ∧ Bl w w' := by
  obtain ⟨A1, c1, h1, hcc⟩ := h.slice
  cases h1
  have h := deed_Get A c [5, 172, 2, 2, 0] w (by simp) hcc (h.rd.1.bl hb)
  rw [live_get] at h
  refine h.mono ?_
  rintro e w1 ⟨B, rfl, _, hbl1⟩
  exact ⟨B, rfl, hbl1⟩
theorem bytes_lit (w : World) (xs : List UInt8) (cs : Array Value) (e : TypeId) (h : cs = (xs.map bv).toArray) : Rd (w.alloc (.cells cs e)) (some ⟨w.heap.size, 0, none⟩) (xs.map bv) := by
  subst h
  have := rd_of_block (heap_alloc_new w (.cells (xs.map bv).toArray e)) 0 xs.length
  rwa [List.drop_zero, List.take_of_length_le (by simp)] at this
theorem same_lit (A : Option Addr) (c n g : Nat) (xs : List UInt8) (cs : Array Value) (w w0 : World) (base : Nat) (hn : n = xs.length) (hn2 : n ≤ 1000) (hg : g = w.heap.size) (hcs : cs = (xs.map bv).toArray) (h : App w0 base 5 1 (.slice A n c) n (xs.map bv)) (hb : Bl w0 w) :
    Calls Try.prog 19 #[.slice A n c, .slice (some ⟨g, 0, none⟩) n n] (w.alloc (.cells cs 5)) (RetDr true (w.alloc (.cells cs 5))) := by
  subst hn hg
  have h2 := same_calls A (some ⟨w.heap.size, 0, none⟩) c xs.length xs xs (w.alloc (.cells cs 5)) (by omega) (h.rd.1.bl (hb.alloc _)) (bytes_lit w xs cs _ hcs)
  simpa using h2
theorem deed_lives (w : World) : Calls Try.prog 25 #[] w (RetBl true w) := by
  have kc := fun (w : World) (C : Array Value) (n c : Nat) => Lib.run_convert_bytes_const (P := Try.prog) w 24 5 C n c Try.underlying24 Try.underlying5
  have HA : Hid (Rd (w.alloc (.cells #[.int .u8 97, .int .u8 98] 5 (2, 3))) (some ⟨w.heap.size, 0, none⟩) (([97, 98] : List UInt8).map bv)) := by
    have := rd_of_block (heap_alloc_new w (.cells #[.int .u8 97, .int .u8 98] 5 (2, 3))) 0 2
    exact this
  go_enter Try.func25, Try.ntmps25
  go_wp2_with fail
  refine (live_call1 _ _ HA.out).mono ?_
  rintro e w1 ⟨A1, c1, rfl, hown1, hbl1⟩
  clear HA
  have HO1 := Lib.hid hown1
  have hw1 := Lib.hid (((Bl.refl w).alloc _).trans hbl1)
  clear hown1 hbl1
  go_wp2_with fail
  refine (live_call2 _).mono ?_
  rintro e w2 ⟨A2, c2, rfl, hown2, hbl2⟩
  have HO2 := Lib.hid hown2
  have hw2 := Lib.hid hbl2
  clear hown2 hbl2
  go_wp2_with fail
  refine (live_call3 _ _ _ _ _ HO2.out (Bl.refl _)).mono ?_
  rintro e w3 ⟨B3, rfl, hbl3⟩
  have hw3 := Lib.hid hbl3
  clear hbl3
  have hpc : ∀ w' : World, Bl (w3.alloc (.cells #[.int .u8 5, .int .u64 300, .int .i64 2, .slice B3 0 0] 26)) w' → w'.cell? ⟨w3.heap.size, 1, none⟩ = some (.int .u64 300) := fun w' hw => by
    have hh := hw.heap (heap_alloc_new w3 _)
    exact cell_of_row _ _ 1 _ _ _ hh
  have HPC := Lib.hid hpc
  clear hpc
  have HB1 := Lib.hid (((Bl.refl w3).alloc (.cells #[.int .u8 5, .int .u64 300, .int .i64 2, .slice B3 0 0] 26)))
  go_wp2_with fail
  refine (same_lit A1 c1 6 _ [1, 0, 0, 2, 97, 98] _ _ _ _ rfl (by omega) (by simp) rfl HO1.out ((hw2.out.trans hw3.out).trans HB1.out)).mono ?_
  rintro e w4 ⟨rfl, hdr⟩
  have HB2 := Lib.hid ((HB1.out.alloc (.cells #[.int .u8 1, .int .u8 0, .int .u8 0, .int .u8 2, .int .u8 97, .int .u8 98] 5)).trans (hdr.below _))
  have HP2 := Lib.hid (((Bl.refl _).alloc (.cells #[.int .u8 1, .int .u8 0, .int .u8 0, .int .u8 2, .int .u8 97, .int .u8 98] 5)).trans (hdr.below _))
  clear hdr
  go_wp2_with fail
  refine (same_lit A2 c2 5 _ [5, 172, 2, 2, 0] _ _ _ _ rfl (by omega) (by simp) rfl HO2.out (hw3.out.trans HB2.out)).mono ?_
  rintro e w5 ⟨rfl, hdr⟩
  have HB3 := Lib.hid ((HB2.out.alloc (.cells #[.int .u8 5, .int .u8 172, .int .u8 2, .int .u8 2, .int .u8 0] 5)).trans (hdr.below _))
  have hc := HPC.out w5 ((HP2.out.alloc (.cells #[.int .u8 5, .int .u8 172, .int .u8 2, .int .u8 2, .int .u8 0] 5)).trans (hdr.below _))
  clear hdr
  go_wp2_with fail
  go_ret
  exact RetBl.mk rfl (((hw1.out.trans hw2.out).trans hw3.out).trans HB3.out)
end Go.Proofs.Ytedmamchfgkkfaa
/- The law of layer 18 walked: lives. -/
set_option linter.unusedVariables false
set_option linter.unusedSimpArgs false
namespace Go.Proofs.Ytedmamchfgkkfaa
open Go.RowKit
set_option maxRecDepth 100000
set_option maxHeartbeats 4000000

def lkeys : List ByteArray := [⟨#[98]⟩, ⟨#[100]⟩]
def lvals : List ByteArray := [⟨#[49]⟩, ⟨#[50]⟩]
theorem sLt_mk (a b : Array UInt8) : sLt ⟨a⟩ ⟨b⟩ = Op.bytesLess a.toList b.toList := by simp [sLt, ByteArray.toList_eq]
theorem nlive_lt : sLt ⟨#[98]⟩ ⟨#[100]⟩ = true ∧ sLt ⟨#[98]⟩ ⟨#[99]⟩ = true ∧ sLt ⟨#[100]⟩ ⟨#[99]⟩ = false := by
  simp only [sLt_mk]; decide
theorem nlive_right : nodeRight 1 lkeys lvals [] 6 6 = true := by
  unfold nodeRight keysOK
  rw [show List.range lkeys.length = [0, 1] from rfl]
  have h0 : keyOK lkeys 0 = true := by rfl
  have h1 : keyOK lkeys 1 = true := by
    have h : keyOK lkeys 1 = sLt ⟨#[98]⟩ ⟨#[100]⟩ := by rfl
    rw [h, nlive_lt.1]
  have h2 : valsOK lvals = true := by rfl
  simp only [List.all_cons, h0, h1, h2]
  decide
theorem nlive_put : nodePut 1 lkeys lvals [] = ([2, 1, 98, 1, 49, 1, 100, 1, 50], 0) := by
  unfold nodePut
  rw [nlive_right, if_neg (by decide)]
  simp [nodeBytes, nodeUpto, nodeHead, nodePiece, lkeys, lvals, tb, lebRowPut, lebPut_one, List.range_succ]
theorem nlive_get : nodeGet 1 [2, 1, 98, 1, 49, 1, 100, 1, 50] = ⟨1, lkeys, lvals, [], 0⟩ := by
  have h : nodeGet 1 [2, 1, 98, 1, 49, 1, 100, 1, 50] = nodeEnd 1 [2, 1, 98, 1, 49, 1, 100, 1, 50] 9 lkeys lvals [] := by rfl
  rw [h, nodeEnd, nlive_right]; rfl
theorem nlive_find : findN lkeys ⟨#[99]⟩ = 1 ∧ findIs lkeys ⟨#[99]⟩ = false := by
  have h : findN lkeys ⟨#[99]⟩ = 1 := by simp [findN, lkeys, nlive_lt]
  refine ⟨h, ?_⟩
  unfold findIs
  rw [h]; decide
theorem node_lives (w : World) : Calls Try.prog 41 #[] w (RetBl true w) := by
  have HK := Lib.hid (row_lit sv w lkeys #[.string ⟨#[98]⟩, .string ⟨#[100]⟩] 9 rfl)
  have HV := Lib.hid (row_lit sv (w.alloc (.cells #[.string ⟨#[98]⟩, .string ⟨#[100]⟩] 9)) lvals #[.string ⟨#[49]⟩, .string ⟨#[50]⟩] 9 rfl)
  have HN := Lib.hid (Ob.new ((w.alloc (.cells #[.string ⟨#[98]⟩, .string ⟨#[100]⟩] 9)).alloc (.cells #[.string ⟨#[49]⟩, .string ⟨#[50]⟩] 9)) #[.int .u8 1, .slice (some ⟨w.heap.size, 0, none⟩) 2 2, .slice (some ⟨w.heap.size + 1, 0, none⟩) 2 2, .slice none 0 0] 52)
  have HW := Lib.hid ((((Bl.refl w).alloc (.cells #[.string ⟨#[98]⟩, .string ⟨#[100]⟩] 9)).alloc (.cells #[.string ⟨#[49]⟩, .string ⟨#[50]⟩] 9)).alloc (.cells #[.int .u8 1, .slice (some ⟨w.heap.size, 0, none⟩) 2 2, .slice (some ⟨w.heap.size + 1, 0, none⟩) 2 2, .slice none 0 0] 52))
  have HK1 := Lib.hid (HK.out.bl (((Bl.refl _).alloc (.cells #[.string ⟨#[49]⟩, .string ⟨#[50]⟩] 9)).alloc (.cells #[.int .u8 1, .slice (some ⟨w.heap.size, 0, none⟩) 2 2, .slice (some ⟨w.heap.size + 1, 0, none⟩) 2 2, .slice none 0 0] 52)))
  have HV1 := Lib.hid (HV.out.bl ((Bl.refl _).alloc (.cells #[.int .u8 1, .slice (some ⟨w.heap.size, 0, none⟩) 2 2, .slice (some ⟨w.heap.size + 1, 0, none⟩) 2 2, .slice none 0 0] 52)))
  have hs1 : (w.alloc (.cells #[.string ⟨#[98]⟩, .string ⟨#[100]⟩] 9)).heap.size = w.heap.size + 1 := by simp
  have hs2 : ((w.alloc (.cells #[.string ⟨#[98]⟩, .string ⟨#[100]⟩] 9)).alloc (.cells #[.string ⟨#[49]⟩, .string ⟨#[50]⟩] 9)).heap.size = w.heap.size + 1 + 1 := by simp
  rw [hs1] at HV HV1
  rw [hs2] at HN
  clear hs1 hs2 HK HV
  go_enter Try.func41, Try.ntmps41
  go_wp2_with fail
  generalize ((w.alloc (.cells #[.string ⟨#[98]⟩, .string ⟨#[100]⟩] 9)).alloc (.cells #[.string ⟨#[49]⟩, .string ⟨#[50]⟩] 9)).alloc (.cells #[.int .u8 1, .slice (some ⟨w.heap.size, 0, none⟩) 2 2, .slice (some ⟨w.heap.size + 1, 0, none⟩) 2 2, .slice none 0 0] 52) = u at HK1 HV1 HN HW ⊢
  refine (node_Put 1 (some ⟨w.heap.size, 0, none⟩) (some ⟨w.heap.size + 1, 0, none⟩) none lkeys lvals [] 2 2 0 u (by decide) (by decide) (by decide) HK1.out HV1.out (Rd.nil _ _)).mono ?_
  rw [nlive_put]
  rintro e w1 ⟨v1, rfl, hown1, hbl1⟩
  obtain ⟨A1, c1, rfl, hcc1⟩ := hown1.slice
  have HB1 := Lib.hid hown1.rd.1
  have HL1 := Lib.hid hbl1
  have HCC := Lib.hid hcc1
  clear hown1 hbl1 hcc1
  go_wp2_with fail
  have hg := node_Get 1 A1 c1 [2, 1, 98, 1, 49, 1, 100, 1, 50] w1 (by decide) HCC.out HB1.out
  rw [nlive_get] at hg
  refine hg.mono ?_
  rintro e w2 ⟨A2, c2, B2, d2, I2, ci2, rfl, ha2, hb2, hi2, hbl2⟩
  have HA2 := Lib.hid (ha2.rd.1.bl ((Bl.refl w2).alloc (.cells #[.int .u8 1, .slice A2 lkeys.length c2, .slice B2 lvals.length d2, .slice I2 0 ci2] 52)))
  have HV2 := Lib.hid (hb2.rd.1.bl ((Bl.refl w2).alloc (.cells #[.int .u8 1, .slice A2 lkeys.length c2, .slice B2 lvals.length d2, .slice I2 0 ci2] 52)))
  have HM := Lib.hid (Ob.new w2 #[.int .u8 1, .slice A2 lkeys.length c2, .slice B2 lvals.length d2, .slice I2 0 ci2] 52)
  have HL2 := Lib.hid (hbl2.alloc (.cells #[.int .u8 1, .slice A2 lkeys.length c2, .slice B2 lvals.length d2, .slice I2 0 ci2] 52))
  obtain ⟨n0, n1, n2, n3, _⟩ := Ob.all4 (HN.out.bl (HL1.out.trans HL2.out))
  clear ha2 hb2 hi2 hg hbl2
  go_wp2_with fail
  have hf := node_Find 1 (some ⟨w.heap.size, 0, none⟩) (some ⟨w.heap.size + 1, 0, none⟩) none lkeys 2 2 2 0 0 ⟨#[99]⟩ _ (by decide) (HK1.out.bl (HL1.out.trans HL2.out))
  refine hf.mono ?_
  rintro e w3 ⟨rfl, hbl3⟩
  rw [nlive_find.1, nlive_find.2]
  obtain ⟨n0, n1, n2, n3, _⟩ := Ob.all4 (HN.out.bl ((HL1.out.trans HL2.out).trans hbl3))
  obtain ⟨m0, m1, m2, m3, _⟩ := Ob.all4 (HM.out.bl hbl3)
  have HL3 := Lib.hid hbl3
  clear hbl3 hf
  go_wp2_with fail
  have hsm := ref_nodeSame 1 1 A2 B2 I2 (some ⟨w.heap.size, 0, none⟩) (some ⟨w.heap.size + 1, 0, none⟩) none lkeys lvals lkeys lvals [] [] c2 d2 ci2 2 2 0 w3 (by decide) (by decide) (by decide) (HA2.out.bl HL3.out) (HV2.out.bl HL3.out) (Rd.nil _ _) (HK1.out.bl ((HL1.out.trans HL2.out).trans HL3.out)) (HV1.out.bl ((HL1.out.trans HL2.out).trans HL3.out)) (Rd.nil _ _)
  refine hsm.mono ?_
  rintro e w4 ⟨rfl, hbl4⟩
  rw [decide_eq_true (by simp)]
  go_wp2_with fail
  go_ret
  exact RetBl.mk rfl ((((HW.out.trans HL1.out).trans HL2.out).trans HL3.out).trans hbl4)
end Go.Proofs.Ytedmamchfgkkfaa
/- The law NodeParts of layer 18 walked. -/
set_option linter.unusedVariables false
set_option linter.unusedSimpArgs false
namespace Go.Proofs.Ytedmamchfgkkfaa
open Go.RowKit
set_option maxRecDepth 100000
set_option maxHeartbeats 4000000

/-- A variable of a node whose slices can be read. -/
structure NdAt (w : World) (g : Nat) (k : Int) (A : Option Addr) (keys : List ByteArray) (c : Nat) (B : Option Addr) (vals : List ByteArray) (d : Nat) (I : Option Addr) (kids : List Int) (ci : Nat) : Prop where
  ob : Ob w g 52 #[.int .u8 k, .slice A keys.length c, .slice B vals.length d, .slice I kids.length ci]
  rk : Rd w A (keys.map sv)
  rv : Rd w B (vals.map sv)
  rn : Rd w I (kids.map iv)
theorem NdAt.bl {w w' : World} {g : Nat} {k : Int} {A B I : Option Addr} {keys vals : List ByteArray} {kids : List Int} {c d ci : Nat} (h : NdAt w g k A keys c B vals d I kids ci) (b : Bl w w') : NdAt w' g k A keys c B vals d I kids ci :=
  ⟨h.ob.bl b, h.rk.bl b, h.rv.bl b, h.rn.bl b⟩
theorem NdAt.new {w : World} {k : Int} {A B I : Option Addr} {keys vals : List ByteArray} {kids : List Int} {c d ci : Nat} (rk : Rd w A (keys.map sv)) (rv : Rd w B (vals.map sv)) (rn : Rd w I (kids.map iv)) :
    NdAt (w.alloc (.cells #[.int .u8 k, .slice A keys.length c, .slice B vals.length d, .slice I kids.length ci] 52)) w.heap.size k A keys c B vals d I kids ci :=
  ⟨Ob.new w _ _, rk.bl ((Bl.refl w).alloc _), rv.bl ((Bl.refl w).alloc _), rn.bl ((Bl.refl w).alloc _)⟩
theorem nodePart_len (k : Int) (ks vs : List ByteArray) (is : List Int) : (nodePart k ks vs is).a.keys.length ≤ ks.length ∧ (nodePart k ks vs is).a.vals.length ≤ vs.length ∧ (nodePart k ks vs is).a.kids.length ≤ is.length ∧ (nodePart k ks vs is).b.keys.length ≤ ks.length ∧ (nodePart k ks vs is).b.vals.length ≤ vs.length ∧ (nodePart k ks vs is).b.kids.length ≤ is.length := by
  unfold nodePart
  split
  · simp [ndNil]
  · split
    · simp; omega
    · simp; omega
theorem joinEnd_len (k : Int) (ks vs : List ByteArray) (is : List Int) : (joinEnd k ks vs is).keys.length ≤ 14 ∧ (joinEnd k ks vs is).vals.length ≤ 14 ∧ (joinEnd k ks vs is).kids.length ≤ 14 := by
  unfold joinEnd
  split
  · simp [nodeNo]
  · rename_i h
    have h := nodeRight_or (by simpa using h)
    simp only
    rcases h.2 with ⟨_, h1, h2, h3, _⟩ | ⟨_, h1, h2, h3, h4, _⟩
    · subst h3; simp; omega
    · subst h4; simp; omega
theorem nodeJoin_len (a : Nd) (s : ByteArray) (b : Nd) : (nodeJoin a s b).keys.length ≤ 14 ∧ (nodeJoin a s b).vals.length ≤ 14 ∧ (nodeJoin a s b).kids.length ≤ 14 := by
  unfold nodeJoin
  split
  · simp [nodeNo]
  · split
    · exact joinEnd_len _ _ _ _
    · split
      · simp [nodeNo]
      · exact joinEnd_len _ _ _ _

theorem parts_calls (k : Int) (A B I : Option Addr) (keys vals : List ByteArray) (kids : List Int) (c d ci : Nat) (k2 : Int) (A2 B2 I2 : Option Addr) (keys2 vals2 : List ByteArray) (kids2 : List Int) (c2 d2 ci2 : Nat) (sep : ByteArray) (w : World)
    (hk : keys.length * 16 ≤ 140737488355328) (hv : vals.length * 16 ≤ 140737488355328) (hn : kids.length * 8 ≤ 140737488355328) (hkc : keys.length ≤ c) (hvd : vals.length ≤ d) (hic : kids.length ≤ ci)
    (hk2 : keys2.length * 16 ≤ 140737488355328) (hv2 : vals2.length * 16 ≤ 140737488355328) (hn2 : kids2.length * 8 ≤ 140737488355328)
    (rk : Rd w A (keys.map sv)) (rv : Rd w B (vals.map sv)) (rn : Rd w I (kids.map iv)) (rk2 : Rd w A2 (keys2.map sv)) (rv2 : Rd w B2 (vals2.map sv)) (rn2 : Rd w I2 (kids2.map iv)) :
    Calls Try.prog 8 #[nodeV k A keys.length c B vals.length d I kids.length ci, nodeV k2 A2 keys2.length c2 B2 vals2.length d2 I2 kids2.length ci2, .string sep] w (RetBl true w) := by
  have N1 := Lib.hid ((NdAt.new (k := k) (c := c) (d := d) (ci := ci) rk rv rn).bl ((Bl.refl _).alloc (.cells #[.int .u8 k2, .slice A2 keys2.length c2, .slice B2 vals2.length d2, .slice I2 kids2.length ci2] 52)))
  have n2 := (NdAt.new (w := w.alloc (.cells #[.int .u8 k, .slice A keys.length c, .slice B vals.length d, .slice I kids.length ci] 52)) (k := k2) (c := c2) (d := d2) (ci := ci2) (rk2.bl ((Bl.refl w).alloc _)) (rv2.bl ((Bl.refl w).alloc _)) (rn2.bl ((Bl.refl w).alloc _)))
  rw [heap_alloc_size] at n2
  have N2 := Lib.hid n2
  have HW := Lib.hid (((Bl.refl w).alloc (.cells #[.int .u8 k, .slice A keys.length c, .slice B vals.length d, .slice I kids.length ci] 52)).alloc (.cells #[.int .u8 k2, .slice A2 keys2.length c2, .slice B2 vals2.length d2, .slice I2 kids2.length ci2] 52))
  clear rk rv rn rk2 rv2 rn2 n2
  go_enter Try.func8, Try.ntmps8
  go_wp2_with fail
  generalize (w.alloc (.cells #[.int .u8 k, .slice A keys.length c, .slice B vals.length d, .slice I kids.length ci] 52)).alloc (.cells #[.int .u8 k2, .slice A2 keys2.length c2, .slice B2 vals2.length d2, .slice I2 kids2.length ci2] 52) = u at N1 N2 HW ⊢
  generalize w.heap.size + 1 = g2 at N2 ⊢
  generalize w.heap.size = g1 at N1 ⊢
  refine (ref_nodeCopy k A B I keys vals kids c d ci _ hk hv hn N1.out.rk N1.out.rv N1.out.rn).mono ?_
  rintro e w3 ⟨A3, c3, B3, d3, I3, ci3, rfl, hA3, hB3, hI3, hbl3, hap3⟩
  have N3 := Lib.hid (NdAt.new (k := k) (c := c3) (d := d3) (ci := ci3) hA3.rd.1 hB3.rd.1 hI3.rd.1)
  have L3 := Lib.hid (hbl3.alloc (.cells #[.int .u8 k, .slice A3 keys.length c3, .slice B3 vals.length d3, .slice I3 kids.length ci3] 52))
  have HC3 := Lib.hid (show keys.length ≤ c3 ∧ vals.length ≤ d3 ∧ kids.length ≤ ci3 by
    obtain ⟨_, _, e1, h1⟩ := hA3.slice
    obtain ⟨_, _, e2, h2⟩ := hB3.slice
    obtain ⟨_, _, e3, h3⟩ := hI3.slice
    cases e1; cases e2; cases e3; exact ⟨h1, h2, h3⟩)
  clear hA3 hB3 hI3 hap3 hbl3
  replace N1 := Lib.hid (N1.out.bl L3.out)
  replace N2 := Lib.hid (N2.out.bl L3.out)
  replace HW := Lib.hid (HW.out.trans L3.out)
  clear L3
  obtain ⟨q1_0, q1_1, q1_2, q1_3, _⟩ := Ob.all4 N2.out.ob
  go_wp2_with fail
  clear q1_0 q1_1 q1_2 q1_3
  generalize w3.alloc (.cells #[.int .u8 k, .slice A3 keys.length c3, .slice B3 vals.length d3, .slice I3 kids.length ci3] 52) = v3 at N1 N2 N3 HW ⊢
  generalize w3.heap.size = g3 at N3 ⊢
  refine (ref_nodeCopy k2 A2 B2 I2 keys2 vals2 kids2 c2 d2 ci2 _ hk2 hv2 hn2 N2.out.rk N2.out.rv N2.out.rn).mono ?_
  rintro e w4 ⟨A4, c4, B4, d4, I4, ci4, rfl, hA4, hB4, hI4, hbl4, hap4⟩
  have N4 := Lib.hid (NdAt.new (k := k2) (c := c4) (d := d4) (ci := ci4) hA4.rd.1 hB4.rd.1 hI4.rd.1)
  have L4 := Lib.hid (hbl4.alloc (.cells #[.int .u8 k2, .slice A4 keys2.length c4, .slice B4 vals2.length d4, .slice I4 kids2.length ci4] 52))
  have HC4 := Lib.hid (show keys2.length ≤ c4 ∧ vals2.length ≤ d4 ∧ kids2.length ≤ ci4 by
    obtain ⟨_, _, e1, h1⟩ := hA4.slice
    obtain ⟨_, _, e2, h2⟩ := hB4.slice
    obtain ⟨_, _, e3, h3⟩ := hI4.slice
    cases e1; cases e2; cases e3; exact ⟨h1, h2, h3⟩)
  clear hA4 hB4 hI4 hap4 hbl4
  replace N1 := Lib.hid (N1.out.bl L4.out)
  replace N2 := Lib.hid (N2.out.bl L4.out)
  replace N3 := Lib.hid (N3.out.bl L4.out)
  replace HW := Lib.hid (HW.out.trans L4.out)
  clear L4
  obtain ⟨q2_0, q2_1, q2_2, q2_3, _⟩ := Ob.all4 N3.out.ob
  go_wp2_with fail
  clear q2_0 q2_1 q2_2 q2_3
  generalize w4.alloc (.cells #[.int .u8 k2, .slice A4 keys2.length c4, .slice B4 vals2.length d4, .slice I4 kids2.length ci4] 52) = v4 at N1 N2 N3 N4 HW ⊢
  generalize w4.heap.size = g4 at N4 ⊢
  refine (node_Part k A3 B3 I3 keys vals kids c3 d3 ci3 _ hk hv hn HC3.out.1 HC3.out.2.1 HC3.out.2.2 N3.out.rk N3.out.rv N3.out.rn).mono ?_
  have HPL := Lib.hid (nodePart_len k keys vals kids)
  generalize hpp : nodePart k keys vals kids = pr at HPL ⊢
  have HPP := Lib.hid hpp
  clear hpp
  rintro e w5 ⟨cs5, cs6, rfl, ⟨A5, c5, B5, d5, I5, ci5, rfl, ra5, rb5, ri5⟩, ⟨A6, c6, B6, d6, I6, ci6, rfl, ra6, rb6, ri6⟩, hbl5⟩
  have N5 := Lib.hid ((NdAt.new (k := pr.a.k) (c := c5) (d := d5) (ci := ci5) ra5 rb5 ri5).bl ((Bl.refl _).alloc (.cells #[.int .u8 pr.b.k, .slice A6 pr.b.keys.length c6, .slice B6 pr.b.vals.length d6, .slice I6 pr.b.kids.length ci6] 52)))
  have n6 := NdAt.new (w := w5.alloc (.cells #[.int .u8 pr.a.k, .slice A5 pr.a.keys.length c5, .slice B5 pr.a.vals.length d5, .slice I5 pr.a.kids.length ci5] 52)) (k := pr.b.k) (c := c6) (d := d6) (ci := ci6) (ra6.bl ((Bl.refl w5).alloc _)) (rb6.bl ((Bl.refl w5).alloc _)) (ri6.bl ((Bl.refl w5).alloc _))
  rw [heap_alloc_size] at n6
  have N6 := Lib.hid n6
  have L5 := Lib.hid ((hbl5.alloc (.cells #[.int .u8 pr.a.k, .slice A5 pr.a.keys.length c5, .slice B5 pr.a.vals.length d5, .slice I5 pr.a.kids.length ci5] 52)).alloc (.cells #[.int .u8 pr.b.k, .slice A6 pr.b.keys.length c6, .slice B6 pr.b.vals.length d6, .slice I6 pr.b.kids.length ci6] 52))
  clear ra5 rb5 ri5 ra6 rb6 ri6 n6 hbl5
  replace N1 := Lib.hid (N1.out.bl L5.out)
  replace N2 := Lib.hid (N2.out.bl L5.out)
  replace N3 := Lib.hid (N3.out.bl L5.out)
  replace N4 := Lib.hid (N4.out.bl L5.out)
  replace HW := Lib.hid (HW.out.trans L5.out)
  clear L5
  obtain ⟨q3_0, q3_1, q3_2, q3_3, _⟩ := Ob.all4 N1.out.ob
  go_wp2_with fail
  clear q3_0 q3_1 q3_2 q3_3
  generalize (w5.alloc (.cells #[.int .u8 pr.a.k, .slice A5 pr.a.keys.length c5, .slice B5 pr.a.vals.length d5, .slice I5 pr.a.kids.length ci5] 52)).alloc (.cells #[.int .u8 pr.b.k, .slice A6 pr.b.keys.length c6, .slice B6 pr.b.vals.length d6, .slice I6 pr.b.kids.length ci6] 52) = v5 at N1 N2 N3 N4 N5 N6 HW ⊢
  generalize w5.heap.size + 1 = g6 at N6 ⊢
  generalize w5.heap.size = g5 at N5 ⊢
  refine (ref_nodePart k A B I keys vals kids c d ci _ hk hv hn hkc hvd hic N1.out.rk N1.out.rv N1.out.rn).mono ?_
  rw [HPP.out]
  rintro e w7 ⟨cs7, cs8, rfl, ⟨A7, c7, B7, d7, I7, ci7, rfl, ra7, rb7, ri7⟩, ⟨A8, c8, B8, d8, I8, ci8, rfl, ra8, rb8, ri8⟩, hbl7⟩
  have N7 := Lib.hid ((NdAt.new (k := pr.a.k) (c := c7) (d := d7) (ci := ci7) ra7 rb7 ri7).bl ((Bl.refl _).alloc (.cells #[.int .u8 pr.b.k, .slice A8 pr.b.keys.length c8, .slice B8 pr.b.vals.length d8, .slice I8 pr.b.kids.length ci8] 52)))
  have n8 := NdAt.new (w := w7.alloc (.cells #[.int .u8 pr.a.k, .slice A7 pr.a.keys.length c7, .slice B7 pr.a.vals.length d7, .slice I7 pr.a.kids.length ci7] 52)) (k := pr.b.k) (c := c8) (d := d8) (ci := ci8) (ra8.bl ((Bl.refl w7).alloc _)) (rb8.bl ((Bl.refl w7).alloc _)) (ri8.bl ((Bl.refl w7).alloc _))
  rw [heap_alloc_size] at n8
  have N8 := Lib.hid n8
  have L7 := Lib.hid ((hbl7.alloc (.cells #[.int .u8 pr.a.k, .slice A7 pr.a.keys.length c7, .slice B7 pr.a.vals.length d7, .slice I7 pr.a.kids.length ci7] 52)).alloc (.cells #[.int .u8 pr.b.k, .slice A8 pr.b.keys.length c8, .slice B8 pr.b.vals.length d8, .slice I8 pr.b.kids.length ci8] 52))
  clear ra7 rb7 ri7 ra8 rb8 ri8 n8 hbl7
  replace N1 := Lib.hid (N1.out.bl L7.out)
  replace N2 := Lib.hid (N2.out.bl L7.out)
  replace N3 := Lib.hid (N3.out.bl L7.out)
  replace N4 := Lib.hid (N4.out.bl L7.out)
  replace N5 := Lib.hid (N5.out.bl L7.out)
  replace N6 := Lib.hid (N6.out.bl L7.out)
  replace HW := Lib.hid (HW.out.trans L7.out)
  clear L7
  obtain ⟨q4_0, q4_1, q4_2, q4_3, _⟩ := Ob.all4 N5.out.ob
  obtain ⟨q5_0, q5_1, q5_2, q5_3, _⟩ := Ob.all4 N7.out.ob
  go_wp2_with fail
  clear q4_0 q4_1 q4_2 q4_3 q5_0 q5_1 q5_2 q5_3
  generalize (w7.alloc (.cells #[.int .u8 pr.a.k, .slice A7 pr.a.keys.length c7, .slice B7 pr.a.vals.length d7, .slice I7 pr.a.kids.length ci7] 52)).alloc (.cells #[.int .u8 pr.b.k, .slice A8 pr.b.keys.length c8, .slice B8 pr.b.vals.length d8, .slice I8 pr.b.kids.length ci8] 52) = v7 at N1 N2 N3 N4 N5 N6 N7 N8 HW ⊢
  generalize w7.heap.size + 1 = g8 at N8 ⊢
  generalize w7.heap.size = g7 at N7 ⊢
  have e0 : (pr.sep.toList == pr.sep.toList) = true := by simp
  have e1 : (pr.e == pr.e) = true := by simp
  refine (ref_nodeSame pr.a.k pr.a.k A5 B5 I5 A7 B7 I7 pr.a.keys pr.a.vals pr.a.keys pr.a.vals pr.a.kids pr.a.kids c5 d5 ci5 c7 d7 ci7 _ (by have := HPL.out; omega) (by have := HPL.out; omega) (by have := HPL.out; omega) N5.out.rk N5.out.rv N5.out.rn N7.out.rk N7.out.rv N7.out.rn).mono ?_
  rintro e w9 ⟨rfl, hbl9⟩
  rw [decide_eq_true (by exact ⟨rfl, rfl, rfl, rfl⟩)]
  have L9 := Lib.hid hbl9
  clear hbl9
  replace N1 := Lib.hid (N1.out.bl L9.out)
  replace N2 := Lib.hid (N2.out.bl L9.out)
  replace N3 := Lib.hid (N3.out.bl L9.out)
  replace N4 := Lib.hid (N4.out.bl L9.out)
  replace N5 := Lib.hid (N5.out.bl L9.out)
  replace N6 := Lib.hid (N6.out.bl L9.out)
  replace N7 := Lib.hid (N7.out.bl L9.out)
  replace N8 := Lib.hid (N8.out.bl L9.out)
  replace HW := Lib.hid (HW.out.trans L9.out)
  clear L9
  obtain ⟨q6_0, q6_1, q6_2, q6_3, _⟩ := Ob.all4 N6.out.ob
  obtain ⟨q7_0, q7_1, q7_2, q7_3, _⟩ := Ob.all4 N8.out.ob
  go_wp2_with fail
  clear q6_0 q6_1 q6_2 q6_3 q7_0 q7_1 q7_2 q7_3
  refine (ref_nodeSame pr.b.k pr.b.k A6 B6 I6 A8 B8 I8 pr.b.keys pr.b.vals pr.b.keys pr.b.vals pr.b.kids pr.b.kids c6 d6 ci6 c8 d8 ci8 _ (by have := HPL.out; omega) (by have := HPL.out; omega) (by have := HPL.out; omega) N6.out.rk N6.out.rv N6.out.rn N8.out.rk N8.out.rv N8.out.rn).mono ?_
  rintro e w10 ⟨rfl, hbl10⟩
  rw [decide_eq_true (by exact ⟨rfl, rfl, rfl, rfl⟩)]
  have L10 := Lib.hid hbl10
  clear hbl10
  replace N1 := Lib.hid (N1.out.bl L10.out)
  replace N2 := Lib.hid (N2.out.bl L10.out)
  replace N3 := Lib.hid (N3.out.bl L10.out)
  replace N4 := Lib.hid (N4.out.bl L10.out)
  replace N5 := Lib.hid (N5.out.bl L10.out)
  replace N6 := Lib.hid (N6.out.bl L10.out)
  replace N7 := Lib.hid (N7.out.bl L10.out)
  replace N8 := Lib.hid (N8.out.bl L10.out)
  replace HW := Lib.hid (HW.out.trans L10.out)
  clear L10
  obtain ⟨q8_0, q8_1, q8_2, q8_3, _⟩ := Ob.all4 N3.out.ob
  obtain ⟨q9_0, q9_1, q9_2, q9_3, _⟩ := Ob.all4 N4.out.ob
  go_wp2_with fail
  clear q8_0 q8_1 q8_2 q8_3 q9_0 q9_1 q9_2 q9_3
  refine (node_Join k A3 B3 I3 keys vals kids c3 d3 ci3 sep k2 A4 B4 I4 keys2 vals2 kids2 c4 d4 ci4 _ hk hv hn hk2 hv2 hn2 N3.out.rk N3.out.rv N3.out.rn N4.out.rk N4.out.rv N4.out.rn).mono ?_
  have HJL := Lib.hid (nodeJoin_len ⟨k, keys, vals, kids⟩ sep ⟨k2, keys2, vals2, kids2⟩)
  generalize hjj : nodeJoin ⟨k, keys, vals, kids⟩ sep ⟨k2, keys2, vals2, kids2⟩ = jr at HJL ⊢
  have HJJ := Lib.hid hjj
  clear hjj
  intro e w11 hret
  obtain ⟨A11, c11, B11, d11, I11, ci11, rfl, ra11, rb11, ri11, hbl11, _, _, _⟩ := hret
  have N11 := Lib.hid (NdAt.new (k := jr.k) (c := c11) (d := d11) (ci := ci11) ra11 rb11 ri11)
  have L11 := Lib.hid (hbl11.alloc (.cells #[.int .u8 jr.k, .slice A11 jr.keys.length c11, .slice B11 jr.vals.length d11, .slice I11 jr.kids.length ci11] 52))
  clear ra11 rb11 ri11 hbl11
  replace N1 := Lib.hid (N1.out.bl L11.out)
  replace N2 := Lib.hid (N2.out.bl L11.out)
  replace N3 := Lib.hid (N3.out.bl L11.out)
  replace N4 := Lib.hid (N4.out.bl L11.out)
  replace N5 := Lib.hid (N5.out.bl L11.out)
  replace N6 := Lib.hid (N6.out.bl L11.out)
  replace N7 := Lib.hid (N7.out.bl L11.out)
  replace N8 := Lib.hid (N8.out.bl L11.out)
  replace HW := Lib.hid (HW.out.trans L11.out)
  clear L11
  obtain ⟨q10_0, q10_1, q10_2, q10_3, _⟩ := Ob.all4 N1.out.ob
  obtain ⟨q11_0, q11_1, q11_2, q11_3, _⟩ := Ob.all4 N2.out.ob
  go_wp2_with fail
  clear q10_0 q10_1 q10_2 q10_3 q11_0 q11_1 q11_2 q11_3
  generalize w11.alloc (.cells #[.int .u8 jr.k, .slice A11 jr.keys.length c11, .slice B11 jr.vals.length d11, .slice I11 jr.kids.length ci11] 52) = v11 at N1 N2 N3 N4 N5 N6 N7 N8 N11 HW ⊢
  generalize w11.heap.size = g11 at N11 ⊢
  refine (ref_nodeJoin k A B I keys vals kids c d ci sep k2 A2 B2 I2 keys2 vals2 kids2 c2 d2 ci2 _ hk hv hn hk2 hv2 hn2 N1.out.rk N1.out.rv N1.out.rn N2.out.rk N2.out.rv N2.out.rn).mono ?_
  rw [HJJ.out]
  intro e w12 hret0
  have hret := hret0.rd
  clear hret0
  obtain ⟨A12, c12, B12, d12, I12, ci12, rfl, ra12, rb12, ri12, hbl12, _, _, _⟩ := hret
  have N12 := Lib.hid (NdAt.new (k := jr.k) (c := c12) (d := d12) (ci := ci12) ra12 rb12 ri12)
  have L12 := Lib.hid (hbl12.alloc (.cells #[.int .u8 jr.k, .slice A12 jr.keys.length c12, .slice B12 jr.vals.length d12, .slice I12 jr.kids.length ci12] 52))
  clear ra12 rb12 ri12 hbl12
  replace N1 := Lib.hid (N1.out.bl L12.out)
  replace N2 := Lib.hid (N2.out.bl L12.out)
  replace N3 := Lib.hid (N3.out.bl L12.out)
  replace N4 := Lib.hid (N4.out.bl L12.out)
  replace N5 := Lib.hid (N5.out.bl L12.out)
  replace N6 := Lib.hid (N6.out.bl L12.out)
  replace N7 := Lib.hid (N7.out.bl L12.out)
  replace N8 := Lib.hid (N8.out.bl L12.out)
  replace N11 := Lib.hid (N11.out.bl L12.out)
  replace HW := Lib.hid (HW.out.trans L12.out)
  clear L12
  obtain ⟨q12_0, q12_1, q12_2, q12_3, _⟩ := Ob.all4 N11.out.ob
  go_wp2_with fail
  clear q12_0 q12_1 q12_2 q12_3
  generalize w12.alloc (.cells #[.int .u8 jr.k, .slice A12 jr.keys.length c12, .slice B12 jr.vals.length d12, .slice I12 jr.kids.length ci12] 52) = v12 at N1 N2 N3 N4 N5 N6 N7 N8 N11 N12 HW ⊢
  generalize w12.heap.size = g12 at N12 ⊢
  have e2 : (jr.e == jr.e) = true := by simp
  refine (ref_nodeSame jr.k jr.k A11 B11 I11 A12 B12 I12 jr.keys jr.vals jr.keys jr.vals jr.kids jr.kids c11 d11 ci11 c12 d12 ci12 _ (by have := HJL.out; omega) (by have := HJL.out; omega) (by have := HJL.out; omega) N11.out.rk N11.out.rv N11.out.rn N12.out.rk N12.out.rv N12.out.rn).mono ?_
  rintro e w13 ⟨rfl, hbl13⟩
  rw [decide_eq_true (by exact ⟨rfl, rfl, rfl, rfl⟩)]
  have L13 := Lib.hid hbl13
  clear hbl13
  replace N1 := Lib.hid (N1.out.bl L13.out)
  replace N2 := Lib.hid (N2.out.bl L13.out)
  replace N3 := Lib.hid (N3.out.bl L13.out)
  replace N4 := Lib.hid (N4.out.bl L13.out)
  replace N5 := Lib.hid (N5.out.bl L13.out)
  replace N6 := Lib.hid (N6.out.bl L13.out)
  replace N7 := Lib.hid (N7.out.bl L13.out)
  replace N8 := Lib.hid (N8.out.bl L13.out)
  replace N11 := Lib.hid (N11.out.bl L13.out)
  replace N12 := Lib.hid (N12.out.bl L13.out)
  replace HW := Lib.hid (HW.out.trans L13.out)
  clear L13
  obtain ⟨q13_0, q13_1, q13_2, q13_3, _⟩ := Ob.all4 N3.out.ob
  obtain ⟨q14_0, q14_1, q14_2, q14_3, _⟩ := Ob.all4 N1.out.ob
  go_wp2_with fail
  clear q13_0 q13_1 q13_2 q13_3 q14_0 q14_1 q14_2 q14_3
  refine (ref_nodeSame k k A3 B3 I3 A B I keys vals keys vals kids kids c3 d3 ci3 c d ci _ (by omega) (by omega) (by omega) N3.out.rk N3.out.rv N3.out.rn N1.out.rk N1.out.rv N1.out.rn).mono ?_
  rintro e w14 ⟨rfl, hbl14⟩
  rw [decide_eq_true (by exact ⟨rfl, rfl, rfl, rfl⟩)]
  have L14 := Lib.hid hbl14
  clear hbl14
  replace N1 := Lib.hid (N1.out.bl L14.out)
  replace N2 := Lib.hid (N2.out.bl L14.out)
  replace N3 := Lib.hid (N3.out.bl L14.out)
  replace N4 := Lib.hid (N4.out.bl L14.out)
  replace N5 := Lib.hid (N5.out.bl L14.out)
  replace N6 := Lib.hid (N6.out.bl L14.out)
  replace N7 := Lib.hid (N7.out.bl L14.out)
  replace N8 := Lib.hid (N8.out.bl L14.out)
  replace N11 := Lib.hid (N11.out.bl L14.out)
  replace N12 := Lib.hid (N12.out.bl L14.out)
  replace HW := Lib.hid (HW.out.trans L14.out)
  clear L14
  obtain ⟨q15_0, q15_1, q15_2, q15_3, _⟩ := Ob.all4 N4.out.ob
  obtain ⟨q16_0, q16_1, q16_2, q16_3, _⟩ := Ob.all4 N2.out.ob
  go_wp2_with fail
  clear q15_0 q15_1 q15_2 q15_3 q16_0 q16_1 q16_2 q16_3
  refine (ref_nodeSame k2 k2 A4 B4 I4 A2 B2 I2 keys2 vals2 keys2 vals2 kids2 kids2 c4 d4 ci4 c2 d2 ci2 _ (by omega) (by omega) (by omega) N4.out.rk N4.out.rv N4.out.rn N2.out.rk N2.out.rv N2.out.rn).mono ?_
  rintro e w15 ⟨rfl, hbl15⟩
  rw [decide_eq_true (by exact ⟨rfl, rfl, rfl, rfl⟩)]
  have L15 := Lib.hid hbl15
  clear hbl15
  replace N1 := Lib.hid (N1.out.bl L15.out)
  replace N2 := Lib.hid (N2.out.bl L15.out)
  replace N3 := Lib.hid (N3.out.bl L15.out)
  replace N4 := Lib.hid (N4.out.bl L15.out)
  replace N5 := Lib.hid (N5.out.bl L15.out)
  replace N6 := Lib.hid (N6.out.bl L15.out)
  replace N7 := Lib.hid (N7.out.bl L15.out)
  replace N8 := Lib.hid (N8.out.bl L15.out)
  replace N11 := Lib.hid (N11.out.bl L15.out)
  replace N12 := Lib.hid (N12.out.bl L15.out)
  replace HW := Lib.hid (HW.out.trans L15.out)
  clear L15
  go_wp2_with fail
  refine (node_lives _).mono ?_
  rintro e w16 ⟨rfl, hbl16⟩
  go_wp2_with fail
  go_ret
  exact RetBl.mk rfl (HW.out.trans hbl16)
end Go.Proofs.Ytedmamchfgkkfaa
/- The law NodeMaps of layer 18 walked. -/
set_option linter.unusedVariables false
set_option linter.unusedSimpArgs false
namespace Go.Proofs.Ytedmamchfgkkfaa
open Go.RowKit
set_option maxRecDepth 100000
set_option maxHeartbeats 8000000

structure Stp where
  cut : Bool
  key : ByteArray
  value : ByteArray
def stv (s : Stp) : List Value := [.bool s.cut, .string s.key, .string s.value]
theorem Rd.step3 {w : World} {A : Option Addr} {l : List Stp} (h : Rd w A (l.flatMap stv)) {j : Nat} {x : Stp} (hx : l[j]? = some x) :
    ∃ b o, A = some ⟨b, o, none⟩ ∧ w.cell? ⟨b, o + j * 3, none⟩ = some (.bool x.cut) ∧ w.cell? ⟨b, o + j * 3 + 1, none⟩ = some (.string x.key) ∧ w.cell? ⟨b, o + j * 3 + 2, none⟩ = some (.string x.value) := by
  have key : ∀ (l : List Stp) (j : Nat), l[j]? = some x → (l.flatMap stv)[j * 3]? = some (.bool x.cut) ∧ (l.flatMap stv)[j * 3 + 1]? = some (.string x.key) ∧ (l.flatMap stv)[j * 3 + 2]? = some (.string x.value) := by
    intro l
    induction l with
    | nil => intro j h; simp at h
    | cons y l ih =>
      intro j h
      rw [List.flatMap_cons]
      cases j with
      | zero => simp at h; subst h; simp [stv]
      | succ j =>
        have := ih j (by simpa using h)
        rw [show (j + 1) * 3 = j * 3 + 3 by omega, show j * 3 + 3 + 1 = j * 3 + 1 + 3 by omega, show j * 3 + 3 + 2 = j * 3 + 2 + 3 by omega]
        rw [List.getElem?_append_right (by simp [stv]), List.getElem?_append_right (by simp [stv]), List.getElem?_append_right (by simp [stv])]
        simpa [stv] using this
  obtain ⟨h1, h2, h3⟩ := key l j hx
  obtain ⟨b, o, rfl, hc⟩ := h (by intro e; rw [e] at h1; simp at h1)
  exact ⟨b, o, rfl, hc _ _ h1, by rw [Nat.add_assoc]; exact hc _ _ h2, by rw [Nat.add_assoc]; exact hc _ _ h3⟩
/-- What holds texts is no node's variable: it stays while that is written. -/
theorem Rd.notNode {w w' : World} {g : Nat} {T : TypeId} {k : Int} {a b c : Option Addr} {n1 n2 n3 c1 c2 c3 : Nat} {A : Option Addr} {cs : List Value} (h : Rd w A cs) (hs : ∀ v ∈ cs, ∃ s, v = .string s) (ho : Ob w g T #[.int .u8 k, .slice a n1 c1, .slice b n2 c2, .slice c n3 c3]) (hc : Ch [g] w w') : Rd w' A cs := by
  by_cases hn : cs = []
  · subst hn; exact Rd.nil _ _
  refine h.ch hc (fun x hx hm => ?_)
  simp at hm
  obtain ⟨b', o, e, hcell⟩ := h hn
  rw [e] at hx
  cases hx
  simp only at hm
  subst hm
  cases hcs : cs with
  | nil => exact hn hcs
  | cons v l =>
    have h1 := hcell 0 v (by rw [hcs]; rfl)
    obtain ⟨s, rfl⟩ := hs v (by rw [hcs]; simp)
    rw [cell_of_row w b' (o + 0) _ T (0, 0) ho] at h1
    have h2 : ∀ (i : Nat) (s : ByteArray), (#[Value.int .u8 k, .slice a n1 c1, .slice b n2 c2, .slice c n3 c3] : Array Value)[i]? ≠ some (.string s) := by
      intro i s
      match i with
      | 0 => simp
      | 1 => simp
      | 2 => simp
      | 3 => simp
      | i + 4 => simp
    exact h2 _ _ h1
theorem sv_str (l : List ByteArray) : ∀ v ∈ l.map sv, ∃ s, v = .string s := by
  intro v hv
  obtain ⟨x, _, rfl⟩ := List.mem_map.1 hv
  exact ⟨x, rfl⟩
theorem pv_str (l : List Pr) : ∀ v ∈ l.flatMap pv, ∃ s, v = .string s := by
  intro v hv
  obtain ⟨x, _, hx⟩ := List.mem_flatMap.1 hv
  simp [pv] at hx
  rcases hx with rfl | rfl
  · exact ⟨_, rfl⟩
  · exact ⟨_, rfl⟩
/-- The law's state: the node's variable, the pairs. -/
structure MapSt (w : World) (gN : Nat) (l : List Pr) (W : Option Addr) (cW : Nat) (A : Option Addr) (c : Nat) (B : Option Addr) (d : Nat) (I : Option Addr) (ci : Nat) (v : World) : Prop where
  nd : NdAt v gN 1 A (l.map (·.1)) c B (l.map (·.2)) d I [] ci
  rp : Rd v W (l.flatMap pv)
  wb : Bl w v
  ge : w.heap.size ≤ gN
  ok : leafOK l
theorem MapSt.bl {w : World} {gN : Nat} {l : List Pr} {W : Option Addr} {cW : Nat} {A : Option Addr} {c : Nat} {B : Option Addr} {d : Nat} {I : Option Addr} {ci : Nat} {v v' : World} (h : MapSt w gN l W cW A c B d I ci v) (b : Bl v v') : MapSt w gN l W cW A c B d I ci v' :=
  ⟨h.nd.bl b, h.rp.bl b, h.wb.trans b, h.ge, h.ok⟩
/-- The node's variable is written. -/
theorem MapSt.put {w : World} {gN : Nat} {l l' : List Pr} {W W' : Option Addr} {cW cW' : Nat} {A : Option Addr} {c : Nat} {B : Option Addr} {d : Nat} {I : Option Addr} {ci : Nat} {v v' v'' : World} {A' B' I' : Option Addr} {c' d' ci' : Nat} (h : MapSt w gN l W cW A c B d I ci v) (ok : leafOK l') (b : Bl v v')
    (ra : Rd v' A' ((l'.map (·.1)).map sv)) (rb : Rd v' B' ((l'.map (·.2)).map sv))
    (hv : v'' = ((((v'.setCell ⟨gN, 0, none⟩ (.int .u8 1)).setCell ⟨gN, 1, none⟩ (.slice A' (l'.map (·.1)).length c')).setCell ⟨gN, 2, none⟩ (.slice B' (l'.map (·.2)).length d')).setCell ⟨gN, 3, none⟩ (.slice I' 0 ci'))) :
    NdAt v'' gN 1 A' (l'.map (·.1)) c' B' (l'.map (·.2)) d' I' [] ci' ∧ Rd v'' W (l.flatMap pv) ∧ Bl w v'' := by
  subst hv
  have ho := h.nd.ob.bl b
  have h4 := ho.set4 (.int .u8 1) (.slice A' (l'.map (·.1)).length c') (.slice B' (l'.map (·.2)).length d') (.slice I' 0 ci')
  exact ⟨⟨h4.1, ra.notNode (sv_str _) ho h4.2, rb.notNode (sv_str _) ho h4.2, Rd.nil _ _⟩, (h.rp.bl b).notNode (pv_str _) ho h4.2, ((h.wb.trans b).ch [gN]).same h4.2 |>.bl (by intro g hg; simp at hg; subst hg; exact h.ge)⟩

theorem maps_calls (L : Option Addr) (cL : Nat) (steps : List Stp) (w : World) (hl : steps.length ≤ 140737488355328) (hr : Rd w L (steps.flatMap stv)) :
    Calls Try.prog 11 #[.slice L steps.length cL] w (RetBl true w) := by
  have HR := Lib.hid hr
  clear hr
  have S0 : MapSt w w.heap.size [] none 0 none 0 none 0 none 0 (w.alloc (.cells #[.int .u8 1, .slice none 0 0, .slice none 0 0, .slice none 0 0] 52)) :=
    ⟨⟨Ob.new w _ _, Rd.nil _ _, Rd.nil _ _, Rd.nil _ _⟩, Rd.nil _ _, (Bl.refl w).alloc _, Nat.le_refl _, leafOK_nil⟩
  have HS0 := Lib.hid S0
  clear S0
  go_enter Try.func11, Try.ntmps11
  go_wp2_with fail
  generalize w.alloc (.cells #[.int .u8 1, .slice none 0 0, .slice none 0 0, .slice none 0 0] 52) = u at HS0 ⊢
  generalize w.heap.size = gN at HS0 ⊢
  go_loopw [4, 5] (fun wt i wr => ∃ (j : Nat) (l : List Pr) (W : Option Addr) (cW : Nat) (A : Option Addr) (c : Nat) (B : Option Addr) (d : Nat) (I : Option Addr) (ci : Nat), j ≤ steps.length ∧ i = .int .i64 j ∧ wt = .slice W l.length cW ∧ Hid (MapSt w gN l W cW A c B d I ci wr)) (fun _ i _ => steps.length - (intOf i).toNat)
  case atStart => exact ⟨0, [], none, 0, none, 0, none, 0, none, 0, by omega, rfl, rfl, HS0.out⟩
  case round =>
    obtain ⟨j, l, W, cW, A, c, B, d, I, ci, hj, rfl, rfl, HS⟩ := hrel
    obtain ⟨v, rfl⟩ : ∃ v : World, v = wr := ⟨_, rfl⟩
    by_cases hlt : j < steps.length ∧ j < 60
    case pos =>
      obtain ⟨hlt, h60⟩ := hlt
      obtain ⟨⟨cu, key, value⟩, hx⟩ := get_some steps j hlt
      obtain ⟨b, o, hL, hc1, hc2, hc3⟩ := (HR.out.bl HS.out.wb).step3 hx
      subst hL
      simp only at hc1 hc2 hc3
      have i0 : (j : Int) < (steps.length : Int) := by omega
      have i6 : (j : Int) < 60 := by omega
      have i1 : (j : Int) ≤ 60 := by omega
      clear hx
      have HS1 := Lib.hid (HS.out.bl ((Bl.refl v).alloc (.cells #[.bool cu, .string key, .string value] 74)))
      have HT := Lib.hid (Ob.new v #[.bool cu, .string key, .string value] 74)
      go_wp2_with fail
      generalize v.alloc (.cells #[.bool cu, .string key, .string value] 74) = v1 at HS1 HT ⊢
      generalize v.heap.size = g6 at HT ⊢
      clear hc1 hc2 hc3
      have HL12 := Lib.hid HS1.out.ok.2.2
      refine (pairs_get W cW l key v1 (by have := HL12.out; omega) HS1.out.rp).mono ?_
      rintro e w1 ⟨rfl, hw1⟩
      subst hw1
      rw [prGet_is HS1.out.ok.1 key]
      generalize (prGet l key).1 = gx
      have HND := Lib.hid HS1.out.nd
      have HMC := Lib.hid (map_cut HS1.out.ok key)
      have HMS := Lib.hid (map_set HS1.out.ok key value)
      have HLE := Lib.hid (show (l.map (·.1)).length = l.length ∧ (l.map (·.2)).length = l.length by simp)
      unfold leafOf at HMC HMS
      generalize hfi : findIs (l.map (·.1)) key = fi at HMC HMS ⊢
      clear hfi
      have HPUT : Hid (∀ {l' : List Pr} {v' v'' : World} {A' B' I' : Option Addr} {c' d' ci' : Nat}, leafOK l' → Bl w1 v' → Rd v' A' ((l'.map (·.1)).map sv) → Rd v' B' ((l'.map (·.2)).map sv) → v'' = ((((v'.setCell ⟨gN, 0, none⟩ (.int .u8 1)).setCell ⟨gN, 1, none⟩ (.slice A' (l'.map (·.1)).length c')).setCell ⟨gN, 2, none⟩ (.slice B' (l'.map (·.2)).length d')).setCell ⟨gN, 3, none⟩ (.slice I' 0 ci')) →
          NdAt v'' gN 1 A' (l'.map (·.1)) c' B' (l'.map (·.2)) d' I' [] ci' ∧ Rd v'' W (l.flatMap pv) ∧ Bl w v'' ∧ Ch [gN] v' v'') := fun ok b ra rb hv => by
        have h := HS1.out.put (cW' := 0) (W' := none) ok b ra rb hv
        refine ⟨h.1, h.2.1, h.2.2, ?_⟩
        rw [hv]; exact ((HS1.out.nd.ob.bl b).set4 _ _ _ _).2
      generalize l.map (·.1) = ks at HND HMC HMS HLE
      generalize l.map (·.2) = vs at HND HMC HMS HLE
      obtain ⟨t0, t1, t2⟩ : w1.cell? ⟨g6, 0, none⟩ = some (.bool cu) ∧ w1.cell? ⟨g6, 1, none⟩ = some (.string key) ∧ w1.cell? ⟨g6, 2, none⟩ = some (.string value) := ⟨HT.out.cell 0 rfl, HT.out.cell 1 rfl, HT.out.cell 2 rfl⟩
      obtain ⟨n0, n1, n2, n3, _⟩ := Ob.all4 HND.out.ob
      go_upto_if 38 with (fail)
      go_cut [4] (fun wt wx => ∃ (l' : List Pr) (W' : Option Addr) (cW' : Nat) (A' : Option Addr) (c' : Nat) (B' : Option Addr) (d' : Nat) (I' : Option Addr) (ci' : Nat), wt = .slice W' l'.length cW' ∧ Hid (MapSt w gN l' W' cW' A' c' B' d' I' ci' wx))
      case first =>
        cases cu
        case true =>
          go_wp2_with fail
          refine (node_Cut 1 A B I ks vs [] c d ci key w1 (by have := HLE.out; have := HL12.out; omega) (by have := HLE.out; have := HL12.out; omega) (by simp) HND.out.rk HND.out.rv HND.out.rn).mono ?_
          intro e w2 hret
          rcases HMC.out with ⟨hf, hno⟩ | ⟨hf, hok, hlo⟩
          case inl =>
            subst hf
            rw [hno] at hret
            obtain ⟨A3, c3, B3, d3, I3, ci3, rfl, _, _, _, hbl, _, _, _⟩ := hret
            simp only [nodeNo, List.length_nil]
            have HS2 := Lib.hid (HS1.out.bl (hbl.alloc (.cells #[.int .u8 0, .slice A3 0 c3, .slice B3 0 d3, .slice I3 0 ci3] 52)))
            have HT2 := Lib.hid (HT.out.bl (hbl.alloc (.cells #[.int .u8 0, .slice A3 0 c3, .slice B3 0 d3, .slice I3 0 ci3] 52)))
            clear hbl hno t0 t1 t2 n0 n1 n2 n3
            obtain ⟨t1, t2⟩ := And.intro (HT2.out.cell 1 rfl) (HT2.out.cell 2 rfl)
            simp only [List.getElem_toArray, List.getElem_cons_zero, List.getElem_cons_succ] at t1 t2
            go_wp2_with fail
            go_meet
            case rel => exact ⟨l, W, cW, A, c, B, d, I, ci, rfl, HS2.out⟩
          case inr =>
            subst hf
            rw [hok] at hret
            obtain ⟨A3, c3, B3, d3, I3, ci3, rfl, ra, rb, _, hbl, _, _, _⟩ := hret
            simp only [List.length_nil]
            have HNE := Lib.hid (show (prDel l key).length = (prDel l key).length from rfl)
            obtain ⟨l3, hl3⟩ : ∃ l3, l3 = prDel l key := ⟨_, rfl⟩
            rw [← hl3] at hlo ra rb
            rw [← hl3]
            have HL3 := Lib.hid hl3
            clear hl3
            obtain ⟨k3, hk3⟩ : ∃ k3, k3 = l3.map (·.1) := ⟨_, rfl⟩
            obtain ⟨u3, hu3⟩ : ∃ u3, u3 = l3.map (·.2) := ⟨_, rfl⟩
            rw [← hk3] at ra
            rw [← hu3] at rb
            rw [← hk3, ← hu3]
            have HB2 := Lib.hid (hbl.alloc (.cells #[.int .u8 1, .slice A3 k3.length c3, .slice B3 u3.length d3, .slice I3 0 ci3] 52))
            have HRA := Lib.hid (ra.bl ((Bl.refl w2).alloc (.cells #[.int .u8 1, .slice A3 k3.length c3, .slice B3 u3.length d3, .slice I3 0 ci3] 52)))
            have HRB := Lib.hid (rb.bl ((Bl.refl w2).alloc (.cells #[.int .u8 1, .slice A3 k3.length c3, .slice B3 u3.length d3, .slice I3 0 ci3] 52)))
            have HLO := Lib.hid hlo
            have HKU := Lib.hid (And.intro hk3 hu3)
            clear hlo ra rb hbl hok hk3 hu3 t0 t1 t2 n0 n1 n2 n3
            obtain ⟨n0, n1, n2, n3, nf0, nf1, nf2, nf3⟩ := Ob.all4 (HND.out.ob.bl HB2.out)
            have HT2 := Lib.hid (HT.out.bl HB2.out)
            obtain ⟨t1, t2⟩ := And.intro (HT2.out.cell 1 rfl) (HT2.out.cell 2 rfl)
            simp only [List.getElem_toArray, List.getElem_cons_zero, List.getElem_cons_succ] at t1 t2
            have hg : g6 ∉ [gN] := by
              intro hm
              simp at hm
              subst hm
              have h1 : w1.heap[g6]? = _ := HT.out
              have h2 : w1.heap[g6]? = _ := HND.out.ob
              rw [h1] at h2
              cases h2
            have HG := Lib.hid hg
            clear hg
            go_upto_region 14 with (fail)
            obtain ⟨v3, hv3⟩ : ∃ v3, v3 = ((((w2.alloc (.cells #[.int .u8 1, .slice A3 k3.length c3, .slice B3 u3.length d3, .slice I3 0 ci3] 52)).setCell ⟨gN, 0, none⟩ (.int .u8 1)).setCell ⟨gN, 1, none⟩ (.slice A3 k3.length c3)).setCell ⟨gN, 2, none⟩ (.slice B3 u3.length d3)).setCell ⟨gN, 3, none⟩ (.slice I3 0 ci3) := ⟨_, rfl⟩
            have hp := HPUT.out (v'' := v3) (I' := I3) (c' := c3) (d' := d3) (ci' := ci3) HLO.out HB2.out (by rw [← HKU.out.1]; exact HRA.out) (by rw [← HKU.out.2]; exact HRB.out) (by rw [← HKU.out.1, ← HKU.out.2]; exact hv3)
            rw [← hv3]
            obtain ⟨hnd3, hrp3, hb3, hch3⟩ := hp
            have HT3 := Lib.hid (HT2.out.ch hch3 HG.out)
            have HND3 := Lib.hid hnd3
            have HRP3 := Lib.hid hrp3
            have HB3 := Lib.hid hb3
            clear hnd3 hrp3 hb3 hch3 hv3 t1 t2 n0 n1 n2 n3 nf0 nf1 nf2 nf3
            obtain ⟨t1, t2⟩ := And.intro (HT3.out.cell 1 rfl) (HT3.out.cell 2 rfl)
            simp only [List.getElem_toArray, List.getElem_cons_zero, List.getElem_cons_succ] at t1 t2
            go_wp2_with fail
            refine (pairs_del W cW l key v3 (by have := HL12.out; omega) HRP3.out).mono ?_
            rintro e w5 ⟨A5, c5, rfl, hc5, hown5, hbl5⟩
            have HF := Lib.hid (show MapSt w gN l3 A5 c5 A3 c3 B3 d3 I3 ci3 w5 from ⟨HND3.out.bl hbl5, by have := hown5.rd.1; rw [← HL3.out] at this; exact this, HB3.out.trans hbl5, HS1.out.ge, HLO.out⟩)
            rw [← HL3.out]
            clear hown5 hbl5
            go_wp2_with fail
            go_meet
            case rel => exact ⟨l3, A5, c5, A3, c3, B3, d3, I3, ci3, rfl, HF.out⟩
        case false =>
          go_wp2_with fail
          refine (node_Set 1 A B I ks vs [] c d ci key value w1 (by have := HLE.out; have := HL12.out; omega) (by have := HLE.out; have := HL12.out; omega) (by simp) HND.out.rk HND.out.rv HND.out.rn).mono ?_
          intro e w2 hret
          rcases HMS.out with ⟨hbad, hno⟩ | ⟨s1, s2, s3, hf, h12, hno⟩ | ⟨s1, s2, s3, hf, hok, hlo⟩
          case inl =>
            have hbad2 : key.size < 1 ∨ (1 ≤ key.size ∧ 40 < key.size) ∨ (1 ≤ key.size ∧ key.size ≤ 40 ∧ 40 < value.size) := by omega
            clear hbad
            rcases hbad2 with h1 | ⟨h1, h2⟩ | ⟨h1, h2, h3⟩
            all_goals
              rw [hno] at hret
              obtain ⟨A3, c3, B3, d3, I3, ci3, rfl, _, _, _, hbl, _, _, _⟩ := hret
              simp only [nodeNo, List.length_nil]
              have HS2 := Lib.hid (HS1.out.bl (hbl.alloc (.cells #[.int .u8 0, .slice A3 0 c3, .slice B3 0 d3, .slice I3 0 ci3] 52)))
              have HT2 := Lib.hid (HT.out.bl (hbl.alloc (.cells #[.int .u8 0, .slice A3 0 c3, .slice B3 0 d3, .slice I3 0 ci3] 52)))
              clear hbl hno t0 t1 t2 n0 n1 n2 n3
              obtain ⟨t1, t2⟩ := And.intro (HT2.out.cell 1 rfl) (HT2.out.cell 2 rfl)
              simp only [List.getElem_toArray, List.getElem_cons_zero, List.getElem_cons_succ] at t1 t2
              go_wp2_with fail
              go_meet
              case rel => exact ⟨l, W, cW, A, c, B, d, I, ci, rfl, HS2.out⟩
          case inr.inl =>
            subst hf
            have i12 : 12 ≤ (l.length : Int) := by omega
            rw [hno] at hret
            obtain ⟨A3, c3, B3, d3, I3, ci3, rfl, _, _, _, hbl, _, _, _⟩ := hret
            simp only [nodeNo, List.length_nil]
            have HS2 := Lib.hid (HS1.out.bl (hbl.alloc (.cells #[.int .u8 0, .slice A3 0 c3, .slice B3 0 d3, .slice I3 0 ci3] 52)))
            have HT2 := Lib.hid (HT.out.bl (hbl.alloc (.cells #[.int .u8 0, .slice A3 0 c3, .slice B3 0 d3, .slice I3 0 ci3] 52)))
            clear hbl hno t0 t1 t2 n0 n1 n2 n3
            obtain ⟨t1, t2⟩ := And.intro (HT2.out.cell 1 rfl) (HT2.out.cell 2 rfl)
            simp only [List.getElem_toArray, List.getElem_cons_zero, List.getElem_cons_succ] at t1 t2
            go_wp2_with fail
            go_meet
            case rel => exact ⟨l, W, cW, A, c, B, d, I, ci, rfl, HS2.out⟩
          case inr.inr =>
            rcases hf with hf | ⟨hf, h12⟩
            case inl =>
              subst hf
              rw [hok] at hret
              obtain ⟨A3, c3, B3, d3, I3, ci3, rfl, ra, rb, _, hbl, _, _, _⟩ := hret
              simp only [List.length_nil]
              have HNE := Lib.hid (show (prPut l key value).length = (prPut l key value).length from rfl)
              obtain ⟨l3, hl3⟩ : ∃ l3, l3 = prPut l key value := ⟨_, rfl⟩
              rw [← hl3] at hlo ra rb
              rw [← hl3]
              have HL3 := Lib.hid hl3
              clear hl3
              obtain ⟨k3, hk3⟩ : ∃ k3, k3 = l3.map (·.1) := ⟨_, rfl⟩
              obtain ⟨u3, hu3⟩ : ∃ u3, u3 = l3.map (·.2) := ⟨_, rfl⟩
              rw [← hk3] at ra
              rw [← hu3] at rb
              rw [← hk3, ← hu3]
              have HB2 := Lib.hid (hbl.alloc (.cells #[.int .u8 1, .slice A3 k3.length c3, .slice B3 u3.length d3, .slice I3 0 ci3] 52))
              have HRA := Lib.hid (ra.bl ((Bl.refl w2).alloc (.cells #[.int .u8 1, .slice A3 k3.length c3, .slice B3 u3.length d3, .slice I3 0 ci3] 52)))
              have HRB := Lib.hid (rb.bl ((Bl.refl w2).alloc (.cells #[.int .u8 1, .slice A3 k3.length c3, .slice B3 u3.length d3, .slice I3 0 ci3] 52)))
              have HLO := Lib.hid hlo
              have HKU := Lib.hid (And.intro hk3 hu3)
              clear hlo ra rb hbl hok hk3 hu3 t0 t1 t2 n0 n1 n2 n3
              obtain ⟨n0, n1, n2, n3, nf0, nf1, nf2, nf3⟩ := Ob.all4 (HND.out.ob.bl HB2.out)
              have HT2 := Lib.hid (HT.out.bl HB2.out)
              obtain ⟨t1, t2⟩ := And.intro (HT2.out.cell 1 rfl) (HT2.out.cell 2 rfl)
              simp only [List.getElem_toArray, List.getElem_cons_zero, List.getElem_cons_succ] at t1 t2
              have hg : g6 ∉ [gN] := by
                intro hm
                simp at hm
                subst hm
                have h1 : w1.heap[g6]? = _ := HT.out
                have h2 : w1.heap[g6]? = _ := HND.out.ob
                rw [h1] at h2
                cases h2
              have HG := Lib.hid hg
              clear hg
              go_upto_region 21 with (fail)
              obtain ⟨v3, hv3⟩ : ∃ v3, v3 = ((((w2.alloc (.cells #[.int .u8 1, .slice A3 k3.length c3, .slice B3 u3.length d3, .slice I3 0 ci3] 52)).setCell ⟨gN, 0, none⟩ (.int .u8 1)).setCell ⟨gN, 1, none⟩ (.slice A3 k3.length c3)).setCell ⟨gN, 2, none⟩ (.slice B3 u3.length d3)).setCell ⟨gN, 3, none⟩ (.slice I3 0 ci3) := ⟨_, rfl⟩
              have hp := HPUT.out (v'' := v3) (I' := I3) (c' := c3) (d' := d3) (ci' := ci3) HLO.out HB2.out (by rw [← HKU.out.1]; exact HRA.out) (by rw [← HKU.out.2]; exact HRB.out) (by rw [← HKU.out.1, ← HKU.out.2]; exact hv3)
              rw [← hv3]
              obtain ⟨hnd3, hrp3, hb3, hch3⟩ := hp
              have HT3 := Lib.hid (HT2.out.ch hch3 HG.out)
              have HND3 := Lib.hid hnd3
              have HRP3 := Lib.hid hrp3
              have HB3 := Lib.hid hb3
              clear hnd3 hrp3 hb3 hch3 hv3 t1 t2 n0 n1 n2 n3 nf0 nf1 nf2 nf3
              obtain ⟨t1, t2⟩ := And.intro (HT3.out.cell 1 rfl) (HT3.out.cell 2 rfl)
              simp only [List.getElem_toArray, List.getElem_cons_zero, List.getElem_cons_succ] at t1 t2
              go_wp2_with fail
              refine (pairs_put W cW l key value v3 (by have := HL12.out; omega) HRP3.out).mono ?_
              rintro e w5 ⟨A5, c5, rfl, hc5, hown5, hbl5⟩
              have HF := Lib.hid (show MapSt w gN l3 A5 c5 A3 c3 B3 d3 I3 ci3 w5 from ⟨HND3.out.bl hbl5, by have := hown5.rd.1; rw [← HL3.out] at this; exact this, HB3.out.trans hbl5, HS1.out.ge, HLO.out⟩)
              rw [← HL3.out]
              clear hown5 hbl5
              go_wp2_with fail
              go_meet
              case rel => exact ⟨l3, A5, c5, A3, c3, B3, d3, I3, ci3, rfl, HF.out⟩
            case inr =>
              subst hf
              have i12 : (l.length : Int) < 12 := by omega
              rw [hok] at hret
              obtain ⟨A3, c3, B3, d3, I3, ci3, rfl, ra, rb, _, hbl, _, _, _⟩ := hret
              simp only [List.length_nil]
              have HNE := Lib.hid (show (prPut l key value).length = (prPut l key value).length from rfl)
              obtain ⟨l3, hl3⟩ : ∃ l3, l3 = prPut l key value := ⟨_, rfl⟩
              rw [← hl3] at hlo ra rb
              rw [← hl3]
              have HL3 := Lib.hid hl3
              clear hl3
              obtain ⟨k3, hk3⟩ : ∃ k3, k3 = l3.map (·.1) := ⟨_, rfl⟩
              obtain ⟨u3, hu3⟩ : ∃ u3, u3 = l3.map (·.2) := ⟨_, rfl⟩
              rw [← hk3] at ra
              rw [← hu3] at rb
              rw [← hk3, ← hu3]
              have HB2 := Lib.hid (hbl.alloc (.cells #[.int .u8 1, .slice A3 k3.length c3, .slice B3 u3.length d3, .slice I3 0 ci3] 52))
              have HRA := Lib.hid (ra.bl ((Bl.refl w2).alloc (.cells #[.int .u8 1, .slice A3 k3.length c3, .slice B3 u3.length d3, .slice I3 0 ci3] 52)))
              have HRB := Lib.hid (rb.bl ((Bl.refl w2).alloc (.cells #[.int .u8 1, .slice A3 k3.length c3, .slice B3 u3.length d3, .slice I3 0 ci3] 52)))
              have HLO := Lib.hid hlo
              have HKU := Lib.hid (And.intro hk3 hu3)
              clear hlo ra rb hbl hok hk3 hu3 t0 t1 t2 n0 n1 n2 n3
              obtain ⟨n0, n1, n2, n3, nf0, nf1, nf2, nf3⟩ := Ob.all4 (HND.out.ob.bl HB2.out)
              have HT2 := Lib.hid (HT.out.bl HB2.out)
              obtain ⟨t1, t2⟩ := And.intro (HT2.out.cell 1 rfl) (HT2.out.cell 2 rfl)
              simp only [List.getElem_toArray, List.getElem_cons_zero, List.getElem_cons_succ] at t1 t2
              have hg : g6 ∉ [gN] := by
                intro hm
                simp at hm
                subst hm
                have h1 : w1.heap[g6]? = _ := HT.out
                have h2 : w1.heap[g6]? = _ := HND.out.ob
                rw [h1] at h2
                cases h2
              have HG := Lib.hid hg
              clear hg
              go_upto_region 21 with (fail)
              obtain ⟨v3, hv3⟩ : ∃ v3, v3 = ((((w2.alloc (.cells #[.int .u8 1, .slice A3 k3.length c3, .slice B3 u3.length d3, .slice I3 0 ci3] 52)).setCell ⟨gN, 0, none⟩ (.int .u8 1)).setCell ⟨gN, 1, none⟩ (.slice A3 k3.length c3)).setCell ⟨gN, 2, none⟩ (.slice B3 u3.length d3)).setCell ⟨gN, 3, none⟩ (.slice I3 0 ci3) := ⟨_, rfl⟩
              have hp := HPUT.out (v'' := v3) (I' := I3) (c' := c3) (d' := d3) (ci' := ci3) HLO.out HB2.out (by rw [← HKU.out.1]; exact HRA.out) (by rw [← HKU.out.2]; exact HRB.out) (by rw [← HKU.out.1, ← HKU.out.2]; exact hv3)
              rw [← hv3]
              obtain ⟨hnd3, hrp3, hb3, hch3⟩ := hp
              have HT3 := Lib.hid (HT2.out.ch hch3 HG.out)
              have HND3 := Lib.hid hnd3
              have HRP3 := Lib.hid hrp3
              have HB3 := Lib.hid hb3
              clear hnd3 hrp3 hb3 hch3 hv3 t1 t2 n0 n1 n2 n3 nf0 nf1 nf2 nf3
              obtain ⟨t1, t2⟩ := And.intro (HT3.out.cell 1 rfl) (HT3.out.cell 2 rfl)
              simp only [List.getElem_toArray, List.getElem_cons_zero, List.getElem_cons_succ] at t1 t2
              go_wp2_with fail
              refine (pairs_put W cW l key value v3 (by have := HL12.out; omega) HRP3.out).mono ?_
              rintro e w5 ⟨A5, c5, rfl, hc5, hown5, hbl5⟩
              have HF := Lib.hid (show MapSt w gN l3 A5 c5 A3 c3 B3 d3 I3 ci3 w5 from ⟨HND3.out.bl hbl5, by have := hown5.rd.1; rw [← HL3.out] at this; exact this, HB3.out.trans hbl5, HS1.out.ge, HLO.out⟩)
              rw [← HL3.out]
              clear hown5 hbl5
              go_wp2_with fail
              go_meet
              case rel => exact ⟨l3, A5, c5, A3, c3, B3, d3, I3, ci3, rfl, HF.out⟩
      case rest =>
        obtain ⟨l', W', cW', A', c', B', d', I', ci', rfl, HS2⟩ := hcut
        have HL12 := Lib.hid HS2.out.ok.2.2
        have HND := Lib.hid HS2.out.nd
        have HLE := Lib.hid (show (l'.map (·.1)).length = l'.length ∧ (l'.map (·.2)).length = l'.length by simp)
        obtain ⟨ks', hks⟩ : ∃ ks', ks' = l'.map (·.1) := ⟨_, rfl⟩
        obtain ⟨vs', hvs⟩ : ∃ vs', vs' = l'.map (·.2) := ⟨_, rfl⟩
        rw [← hks, ← hvs] at HND HLE
        have HKV := Lib.hid (And.intro hks hvs)
        clear hks hvs t0 t1 t2
        clear n0 n1 n2 n3
        obtain ⟨n0, n1, n2, n3, _⟩ := Ob.all4 HND.out.ob
        rw [HLE.out.1] at n1
        rw [HLE.out.2] at n2
        go_wp2_with fail
        go_loopw [14] (fun i wr => ∃ q : Nat, q ≤ l'.length ∧ i = .int .i64 q ∧ Hid (Bl wc wr)) (fun i _ => l'.length - (intOf i).toNat)
        case atStart => exact ⟨0, by omega, rfl, Bl.refl _⟩
        case round =>
          obtain ⟨q, hq, rfl, HB⟩ := hrel
          obtain ⟨vv, rfl⟩ : ∃ vv : World, vv = wr := ⟨_, rfl⟩
          clear n0 n1 n2 n3
          obtain ⟨n0, n1, n2, n3, _⟩ := Ob.all4 (HND.out.ob.bl HB.out)
          rw [HLE.out.1] at n1
          rw [HLE.out.2] at n2
          have hq12 : l'.length ≤ 12 := HL12.out
          by_cases hql : q < l'.length
          case pos =>
            obtain ⟨⟨y, z⟩, hy⟩ := get_some l' q hql
            have hky : ks'[q]? = some y := by rw [HKV.out.1, List.getElem?_map, hy]; rfl
            have hvz : vs'[q]? = some z := by rw [HKV.out.2, List.getElem?_map, hy]; rfl
            obtain ⟨b1, o1, hA1, hk1⟩ := (HND.out.rk.bl HB.out).get hky
            obtain ⟨b2, o2, hA2, hv1⟩ := (HND.out.rv.bl HB.out).get hvz
            obtain ⟨b3, o3, hA3, hp1, hp2⟩ := (HS2.out.rp.bl HB.out).pair hy
            subst hA1
            subst hA2
            subst hA3
            simp only [sv] at hk1 hv1
            simp only at hp1 hp2
            clear hy hky hvz
            have i2 : (q : Int) < (l'.length : Int) := by omega
            have i3 : (q : Int) ≤ 12 := by omega
            go_wp2_with fail
            go_quiet (fail)
            go_wp2_with fail
            go_roundw
            case rel => exact ⟨q + 1, by omega, by go_num, HB.out.drewN _⟩
            case measure => simp [intOf]; omega
          case neg =>
            obtain rfl : q = l'.length := by omega
            have HF := Lib.hid (HS2.out.bl HB.out)
            go_wp2_with fail
            go_roundw
            case rel => exact ⟨j + 1, l', W', cW', A', c', B', d', I', ci', by omega, by go_num, rfl, HF.out⟩
            case measure => simp [intOf]; omega
    case neg =>
      rcases (show steps.length ≤ j ∨ (j < steps.length ∧ 60 ≤ j) by omega) with hh | ⟨hh, hh2⟩
      all_goals
        clear hlt
        go_wp2_with fail
        refine (node_lives _).mono ?_
        rintro e w7 ⟨rfl, hbl7⟩
        have HWW := HS.out.wb.trans hbl7
        clear hbl7
        go_wp2_with fail
        go_ret
        exact RetBl.mk rfl HWW
end Go.Proofs.Ytedmamchfgkkfaa
/- Words that the proofs of this seat share: arguments opened, from the datum that they read as. No program in sight. -/
namespace Go.Proofs.Ytedmamchfgkkfaa
open Go.RowKit Go.ChangeShapes Go.WideShapes Go.Deep

theorem choose_list {α : Type} {p : Nat → α → Prop} (n : Nat) (h : ∀ i, i < n → ∃ a, p i a) : ∃ l : List α, l.length = n ∧ ∀ i a, l[i]? = some a → p i a := by
  induction n with
  | zero => exact ⟨[], rfl, fun i a h => by simp at h⟩
  | succ n ih =>
    obtain ⟨l, hl, hp⟩ := ih (fun i hi => h i (by omega))
    obtain ⟨a, ha⟩ := h n (by omega)
    refine ⟨l ++ [a], by simp [hl], fun i b hb => ?_⟩
    rcases Nat.lt_or_ge i n with hi | hi
    · rw [List.getElem?_append_left (by omega)] at hb; exact hp i b hb
    · rw [List.getElem?_append_right (by omega)] at hb
      have : i - l.length = 0 := by
        rcases Nat.eq_zero_or_pos (i - l.length) with h0 | h0
        · exact h0
        · rw [List.getElem?_eq_none (by simp; omega)] at hb; cases hb
      rw [this] at hb
      simp only [List.getElem?_cons_zero, Option.some.injEq] at hb
      subst hb
      have hin : i = n := by omega
      rw [hin]; exact ha
theorem flat_get {α : Type} (f : α → List Value) (k : Nat) (l : List α) (hk : ∀ a ∈ l, (f a).length = k) : ∀ (j : Nat) (v : Value), (l.flatMap f)[j]? = some v → ∃ i a r, l[i]? = some a ∧ r < k ∧ j = i * k + r ∧ (f a)[r]? = some v := by
  induction l with
  | nil => intro j v h; simp at h
  | cons a l ih =>
    intro j v h
    rw [List.flatMap_cons] at h
    have ha := hk a (by simp)
    rcases Nat.lt_or_ge j k with hj | hj
    · rw [List.getElem?_append_left (by omega)] at h
      exact ⟨0, a, j, by simp, hj, by omega, h⟩
    · rw [List.getElem?_append_right (by omega), ha] at h
      obtain ⟨i, b, r, h1, h2, h3, h4⟩ := ih (fun x hx => hk x (by simp [hx])) _ _ h
      exact ⟨i + 1, b, r, by simpa using h1, h2, by rw [Nat.add_mul]; omega, h4⟩
theorem flat_one {α : Type} (g : α → Value) (l : List α) : l.flatMap (fun a => [g a]) = l.map g := by
  induction l with
  | nil => rfl
  | cons a l ih => simp [ih]

/-- What is met in reading a datum takes no more than the form's reach. -/
def Sz {H : Type} (P : Program) (t : TypeId) (d : DataW H) : Prop := ∀ n ∈ d.weights P t, n ≤ 140737488351232
theorem sz_of {H : Type} {P : Program} {ts : List TypeId} {ds : List (DataW H)} (h : (DataW.weightsEach P ts ds).all (· ≤ reachBytes) = true) (j : Nat) {t : TypeId} {d : DataW H} (ht : ts[j]? = some t) (hd : ds[j]? = some d) : Sz P t d := fun n hn => by
  have := List.all_eq_true.1 h _ (DataW.weights_mem_each ht hd n hn)
  exact of_decide_eq_true this
theorem all_mem {H : Type} {P : Program} {e : TypeId} : ∀ {ds : List (DataW H)} {d : DataW H}, d ∈ ds → ∀ n ∈ d.weights P e, n ∈ DataW.weightsAll P e ds
  | d0 :: ds, d, hd, n, hn => by
    simp only [DataW.weightsAll, List.mem_append]
    rcases List.mem_cons.1 hd with rfl | hd
    · exact .inl hn
    · exact .inr (all_mem hd n hn)
theorem sz_slice {H : Type} {P : Program} {t e : TypeId} {xs ys : List (DataW H)} (hu : P.underlying t = some (.slice e)) (h : Sz P t (.slice xs ys)) : (xs.length + ys.length) * P.bytesOf e ≤ 140737488351232 ∧ ∀ d ∈ xs, Sz P e d := by
  unfold Sz at h
  simp only [DataW.weights, hu, List.mem_cons, List.mem_append] at h
  exact ⟨h _ (.inl rfl), fun d hd n hn => h n (.inr (.inl (all_mem hd n hn)))⟩
theorem sz_agg {H : Type} {P : Program} {t : TypeId} {fs : Array Field} {xs : List (DataW H)} (hu : P.underlying t = some (.struct fs)) (h : Sz P t (.agg xs)) (j : Nat) {f : Field} {d : DataW H} (hf : fs[j]? = some f) (hd : xs[j]? = some d) : Sz P f.type d := fun n hn => by
  unfold Sz at h
  simp only [DataW.weights, hu] at h
  exact h n (DataW.weights_mem_each (j := j) (by simp [hf]) hd n hn)
theorem sz_str {H : Type} {P : Program} {t : TypeId} {s : ByteArray} (h : Sz (H := H) P t (.lit (.string s.data.toList))) : s.size ≤ 140737488351232 := by
  have := h s.data.toList.length (by simp [DataW.weights])
  simpa using this

section
variable {H : Type} {enc : TypeId × Value → H} {P : Program} {w : World} {base : Nat} {held : Bool}
/-- A slice, its elements of k cells each. -/
theorem o_slice {α : Type} (f : α → List Value) (Q : α → Prop) {t e : TypeId} {k B fuel : Nat} {cs : List Value} {x : DataW H × List MemPlace} (ht : P.underlying t = some (.slice e)) (hc : P.cellsOf e = k) (hB : P.bytesOf e = B)
    (el : ∀ (n : Nat) (cs : List Value) (y : DataW H × List MemPlace), cs.length = k → DataW.trod enc P w base (fun _ => true) held n e cs = some y → Sz P e y.1 → ∃ a, cs = f a ∧ Q a)
    (h : DataW.trod enc P w base (fun _ => true) held fuel t cs = some x) (hs : Sz P t x.1) :
    ∃ (A : Option Addr) (l : List α) (c : Nat), cs = [.slice A l.length c] ∧ l.length ≤ c ∧ c * B ≤ 140737488351232 ∧ Rd w A (l.flatMap f) ∧ ∀ a ∈ l, Q a := by
  rcases open_slice ht h with ⟨rfl, rfl⟩ | ⟨a, len, cap, m, n, D, Pl, rfl, hb, hl, hm, hmm, rfl, hx⟩
  · exact ⟨none, [], 0, rfl, Nat.le_refl _, by omega, Rd.nil _ _, fun a ha => by simp at ha⟩
  · simp only [if_true] at hmm
    subst hmm
    obtain ⟨hw1, hw2⟩ := sz_slice ht hs
    rw [hB] at hw1
    simp only [List.length_map, List.length_range] at hw1
    rw [show len + (m - len) = m by omega] at hw1
    obtain ⟨l, hll, hp⟩ := choose_list (p := fun i b => (∀ r v, (f b)[r]? = some v → r < k → w.cell? (a.add (i * k + r)) = some v) ∧ (f b).length = k ∧ Q b) len (fun i hi => by
      obtain ⟨cs', h1, h2⟩ := hx i (by omega)
      rw [hc] at h1
      obtain ⟨_, hlen, hat⟩ := World.cells?_some h1
      obtain ⟨b, rfl, hq⟩ := el _ _ _ hlen h2 (hw2 (D i) (List.mem_map.2 ⟨i, List.mem_range.2 hi, rfl⟩))
      refine ⟨b, fun r v hv hr => ?_, hlen, hq⟩
      have := hat r hr
      rw [add_add] at this
      rw [this, hv])
    have hmem : ∀ b ∈ l, (f b).length = k ∧ Q b := fun b hb => by
      obtain ⟨i, hi⟩ := List.mem_iff_getElem?.1 hb
      exact (hp i b hi).2
    refine ⟨some a, l, m, by rw [hll], by omega, hw1, ?_, fun b hb => (hmem b hb).2⟩
    intro hn
    have hflat := flat_get f k l (fun b hb => (hmem b hb).1)
    have hcell : ∀ j v, (l.flatMap f)[j]? = some v → w.cell? (a.add j) = some v := fun j v hv => by
      obtain ⟨i, b, r, h1, h2, h3, h4⟩ := hflat j v hv
      rw [h3]
      exact (hp i b h1).1 r v h4 h2
    obtain ⟨v0, hv0⟩ : ∃ v, (l.flatMap f)[0]? = some v := by
      cases hcs : l.flatMap f with
      | nil => exact absurd hcs hn
      | cons v r => exact ⟨v, rfl⟩
    have h0 := hcell 0 v0 hv0
    have hspot : a.spot = none := by
      rw [show a.add 0 = a from by simp [Addr.add]] at h0
      unfold World.cell? at h0
      split at h0
      · split at h0
        · cases h0
        · rename_i h; simpa using h
      · cases h0
    obtain ⟨b, o, s⟩ := a
    simp only at hspot
    subst hspot
    refine ⟨b, o, rfl, fun j v hv => ?_⟩
    have := hcell j v hv
    have ha : (⟨b, o, none⟩ : Addr).add j = ⟨b, o + j, none⟩ := by unfold Addr.add; split <;> simp_all
    rwa [ha] at this
theorem o_row {α : Type} (g : α → Value) (Q : α → Prop) {t e : TypeId} {B fuel : Nat} {cs : List Value} {x : DataW H × List MemPlace} (ht : P.underlying t = some (.slice e)) (hc : P.cellsOf e = 1) (hB : P.bytesOf e = B)
    (el : ∀ (n : Nat) (v : Value) (y : DataW H × List MemPlace), DataW.trod enc P w base (fun _ => true) held n e [v] = some y → Sz P e y.1 → ∃ a, v = g a ∧ Q a)
    (h : DataW.trod enc P w base (fun _ => true) held fuel t cs = some x) (hs : Sz P t x.1) :
    ∃ (A : Option Addr) (l : List α) (c : Nat), cs = [.slice A l.length c] ∧ l.length ≤ c ∧ c * B ≤ 140737488351232 ∧ Rd w A (l.map g) ∧ ∀ a ∈ l, Q a := by
  obtain ⟨A, l, c, h1, h2, h3, h4, h5⟩ := o_slice (fun a => [g a]) Q ht hc hB (fun n cs y hl hy hz => by
    match cs, hl with
    | [v], _ =>
      obtain ⟨a, rfl, hq⟩ := el n v y hy hz
      exact ⟨a, rfl, hq⟩) h hs
  rw [flat_one] at h4
  exact ⟨A, l, c, h1, h2, h3, h4, h5⟩
theorem o_u8 {e : TypeId} (he : P.underlying e = some (.int .u8)) (n : Nat) (v : Value) (y : DataW H × List MemPlace) (h : DataW.trod enc P w base (fun _ => true) held n e [v] = some y) : ∃ a : UInt8, v = bv a := by
  obtain ⟨z, hz, _, hwf⟩ := DataW.trod_int he h
  have hr : 0 ≤ z ∧ z < 256 := by simp [Lit.wf, IntKind.min, IntKind.max, IntKind.signed, IntKind.bits] at hwf; omega
  refine ⟨z.toNat.toUInt8, ?_⟩
  simp only [List.cons.injEq, and_true] at hz
  rw [hz, bv, u8_toNat _ (by omega)]
  congr 1; omega
theorem o_u64 {e : TypeId} (he : P.underlying e = some (.int .u64)) (n : Nat) (v : Value) (y : DataW H × List MemPlace) (h : DataW.trod enc P w base (fun _ => true) held n e [v] = some y) : ∃ a : Nat, v = wv a ∧ a < 18446744073709551616 := by
  obtain ⟨z, hz, _, hwf⟩ := DataW.trod_int he h
  have hr : 0 ≤ z ∧ z < 18446744073709551616 := by simp [Lit.wf, IntKind.min, IntKind.max, IntKind.signed, IntKind.bits] at hwf; omega
  refine ⟨z.toNat, ?_, by omega⟩
  simp only [List.cons.injEq, and_true] at hz
  rw [hz, wv]
  congr 1; omega
theorem o_i64 {e : TypeId} (he : P.underlying e = some (.int .i64)) (n : Nat) (v : Value) (y : DataW H × List MemPlace) (h : DataW.trod enc P w base (fun _ => true) held n e [v] = some y) : ∃ a : Int, v = iv a ∧ -9223372036854775808 ≤ a ∧ a ≤ 9223372036854775807 := by
  obtain ⟨z, hz, _, hwf⟩ := DataW.trod_int he h
  have hr : -9223372036854775808 ≤ z ∧ z ≤ 9223372036854775807 := by simp [Lit.wf, IntKind.min, IntKind.max, IntKind.signed, IntKind.bits] at hwf; omega
  simp only [List.cons.injEq, and_true] at hz
  exact ⟨z, hz, hr⟩
theorem o_u64i {e : TypeId} (he : P.underlying e = some (.int .u64)) {n : Nat} {v : Value} {y : DataW H × List MemPlace} (h : DataW.trod enc P w base (fun _ => true) held n e [v] = some y) : ∃ a : Int, v = .int .u64 a ∧ 0 ≤ a ∧ a < 18446744073709551616 := by
  obtain ⟨a, h1, h2⟩ := o_u64 he n v y h
  exact ⟨a, h1, by omega, by omega⟩
theorem o_u8i {e : TypeId} (he : P.underlying e = some (.int .u8)) {n : Nat} {v : Value} {y : DataW H × List MemPlace} (h : DataW.trod enc P w base (fun _ => true) held n e [v] = some y) : ∃ a : Int, v = .int .u8 a ∧ 0 ≤ a ∧ a < 256 := by
  obtain ⟨a, h1⟩ := o_u8 he n v y h
  have := a.toNat_lt
  exact ⟨a.toNat, h1, by omega, by omega⟩
theorem o_bool {e : TypeId} (he : P.underlying e = some .bool) {n : Nat} {v : Value} {y : DataW H × List MemPlace} (h : DataW.trod enc P w base (fun _ => true) held n e [v] = some y) : ∃ a : Bool, v = .bool a := by
  obtain ⟨z, hz, _⟩ := DataW.trod_bool he h
  simp only [List.cons.injEq, and_true] at hz
  exact ⟨z, hz⟩
theorem list4 {cs : Array Value} {a b c d : Value} (hl : cs.toList.length = 4) (h0 : cs.toList[0]? = some a) (h1 : cs.toList[1]? = some b) (h2 : cs.toList[2]? = some c) (h3 : cs.toList[3]? = some d) : cs = #[a, b, c, d] := by
  obtain ⟨l⟩ := cs
  match l, hl with
  | [x0, x1, x2, x3], _ => simp at h0 h1 h2 h3; subst h0 h1 h2 h3; rfl
theorem list6 {cs : Array Value} {a b c d e f : Value} (hl : cs.toList.length = 6) (h0 : cs.toList[0]? = some a) (h1 : cs.toList[1]? = some b) (h2 : cs.toList[2]? = some c) (h3 : cs.toList[3]? = some d) (h4 : cs.toList[4]? = some e) (h5 : cs.toList[5]? = some f) : cs = #[a, b, c, d, e, f] := by
  obtain ⟨l⟩ := cs
  match l, hl with
  | [x0, x1, x2, x3, x4, x5], _ => simp at h0 h1 h2 h3 h4 h5; subst h0 h1 h2 h3 h4 h5; rfl
theorem o_str {e : TypeId} (he : P.underlying e = some .string) (n : Nat) (v : Value) (y : DataW H × List MemPlace) (h : DataW.trod enc P w base (fun _ => true) held n e [v] = some y) (hs : Sz P e y.1) : ∃ a : ByteArray, v = sv a ∧ a.size ≤ 140737488351232 := by
  obtain ⟨s, hz, rfl, _⟩ := DataW.trod_string he h
  simp only [List.cons.injEq, and_true] at hz
  exact ⟨s, hz, sz_str hs⟩
theorem o_bytes {t e : TypeId} {fuel : Nat} {v : Value} {x : DataW H × List MemPlace} (ht : P.underlying t = some (.slice e)) (he : P.underlying e = some (.int .u8)) (hc : P.cellsOf e = 1) (hB : P.bytesOf e = 1)
    (h : DataW.trod enc P w base (fun _ => true) held fuel t [v] = some x) (hs : Sz P t x.1) : ∃ (A : Option Addr) (b : List UInt8) (c : Nat), v = .slice A b.length c ∧ b.length ≤ c ∧ c ≤ 140737488351232 ∧ Rd w A (b.map bv) := by
  obtain ⟨A, l, c, h1, h2, h3, h4, _⟩ := o_row bv (fun _ => True) ht hc hB (fun n v y hy _ => by obtain ⟨a, ha⟩ := o_u8 he n v y hy; exact ⟨a, ha, trivial⟩) h hs
  simp only [List.cons.injEq, and_true] at h1
  exact ⟨A, l, c, h1, h2, by omega, h4⟩
theorem o_words {t e : TypeId} {fuel : Nat} {v : Value} {x : DataW H × List MemPlace} (ht : P.underlying t = some (.slice e)) (he : P.underlying e = some (.int .u64)) (hc : P.cellsOf e = 1) (hB : P.bytesOf e = 8)
    (h : DataW.trod enc P w base (fun _ => true) held fuel t [v] = some x) (hs : Sz P t x.1) : ∃ (A : Option Addr) (b : List Nat) (c : Nat), v = .slice A b.length c ∧ b.length ≤ c ∧ c * 8 ≤ 140737488351232 ∧ Rd w A (b.map wv) ∧ ∀ a ∈ b, a < 18446744073709551616 := by
  obtain ⟨A, l, c, h1, h2, h3, h4, h5⟩ := o_row wv (fun a => a < 18446744073709551616) ht hc hB (fun n v y hy _ => o_u64 he n v y hy) h hs
  simp only [List.cons.injEq, and_true] at h1
  exact ⟨A, l, c, h1, h2, h3, h4, h5⟩
theorem o_ints {t e : TypeId} {fuel : Nat} {v : Value} {x : DataW H × List MemPlace} (ht : P.underlying t = some (.slice e)) (he : P.underlying e = some (.int .i64)) (hc : P.cellsOf e = 1) (hB : P.bytesOf e = 8)
    (h : DataW.trod enc P w base (fun _ => true) held fuel t [v] = some x) (hs : Sz P t x.1) : ∃ (A : Option Addr) (b : List Int) (c : Nat), v = .slice A b.length c ∧ b.length ≤ c ∧ c * 8 ≤ 140737488351232 ∧ Rd w A (b.map iv) ∧ ∀ a ∈ b, -9223372036854775808 ≤ a ∧ a ≤ 9223372036854775807 := by
  obtain ⟨A, l, c, h1, h2, h3, h4, h5⟩ := o_row iv (fun a => -9223372036854775808 ≤ a ∧ a ≤ 9223372036854775807) ht hc hB (fun n v y hy _ => o_i64 he n v y hy) h hs
  simp only [List.cons.injEq, and_true] at h1
  exact ⟨A, l, c, h1, h2, h3, h4, h5⟩
theorem o_texts {t e : TypeId} {fuel : Nat} {v : Value} {x : DataW H × List MemPlace} (ht : P.underlying t = some (.slice e)) (he : P.underlying e = some .string) (hc : P.cellsOf e = 1) (hB : P.bytesOf e = 16)
    (h : DataW.trod enc P w base (fun _ => true) held fuel t [v] = some x) (hs : Sz P t x.1) : ∃ (A : Option Addr) (b : List ByteArray) (c : Nat), v = .slice A b.length c ∧ b.length ≤ c ∧ c * 16 ≤ 140737488351232 ∧ Rd w A (b.map sv) ∧ ∀ a ∈ b, a.size ≤ 140737488351232 := by
  obtain ⟨A, l, c, h1, h2, h3, h4, h5⟩ := o_row sv (fun a => a.size ≤ 140737488351232) ht hc hB (fun n v y hy hz => o_str he n v y hy hz) h hs
  simp only [List.cons.injEq, and_true] at h1
  exact ⟨A, l, c, h1, h2, h3, h4, h5⟩
/-- A struct whose fields are of one cell each. -/
theorem o_struct {t : TypeId} {fs : Array Field} {fuel : Nat} {cs : List Value} {x : DataW H × List MemPlace} (hu : P.underlying t = some (.struct fs)) (hone : oneCellFields P fs = true) (hC : P.cellsOf t = fs.size)
    (h : DataW.trod enc P w base (fun _ => true) held fuel t cs = some x) (hs : Sz P t x.1) :
    cs.length = fs.size ∧ ∃ n, ∀ (j : Nat) (f : Field), fs[j]? = some f → ∃ (v : Value) (y : DataW H × List MemPlace), cs[j]? = some v ∧ DataW.trod enc P w base (fun _ => true) held n f.type [v] = some y ∧ Sz P f.type y.1 := by
  obtain ⟨xs, n, _, rfl, hlen, hxl, hf⟩ := DataW.trod_struct hu h
  refine ⟨hlen.trans hC, n, fun j f hj => ?_⟩
  obtain ⟨ho, hk⟩ := hone_of hone j f hj
  have hjl : j < fs.size := (Array.getElem?_eq_some_iff.1 hj).1
  have hcl : cs.length = fs.size := hlen.trans hC
  have h1 := hf j f hj
  rw [ho, hk] at h1
  have hd : (cs.drop j).take 1 = [cs[j]'(by omega)] := by rw [List.drop_eq_getElem_cons (by omega)]; rfl
  rw [hd] at h1
  have hys : xs[j]? = some (xs[j]'(by omega)) := List.getElem?_eq_getElem (by omega)
  refine ⟨_, _, List.getElem?_eq_getElem (by omega), h1.trans hys, ?_⟩
  exact sz_agg hu hs j hj (by rw [List.getElem?_map, hys]; rfl)
theorem o_struct_v {t : TypeId} {fs : Array Field} {v : Value} {r : Reach} {b0 : Nat} (hu : P.underlying t = some (.struct fs)) (hv : Value.okWide P w r b0 t v) : ∃ cs : Array Value, v = .agg cs ∧ v.cells.toList = cs.toList := by
  obtain ⟨cs, rfl, _⟩ := okWide_struct hu hv
  exact ⟨cs, rfl, rfl⟩
end
end Go.Proofs.Ytedmamchfgkkfaa
/- Arguments of layer 22 opened: a deed. -/
namespace Go.Proofs.Ytedmamchfgkkfaa
open Go.RowKit Go.ChangeShapes Go.WideShapes Go.Deep
set_option maxRecDepth 100000
theorem Try.bytes_deed : Try.prog.cellsOf 5 = 1 ∧ Try.prog.bytesOf 5 = 1 ∧ Try.prog.cellsOf 26 = 4 := ⟨by kernel_rfl, by kernel_rfl, by kernel_rfl⟩
theorem open_deed {H : Type} {enc : TypeId × Value → H} {w : World} {b0 base : Nat} {held : Bool} {v : Value} {d : DataW H} {p : List MemPlace} (hval : Value.okWide Try.prog w .any b0 26 v) (h : DataW.Trod enc Try.prog w base (fun _ => true) held 26 v d p) (hs : Sz Try.prog 26 d) :
    ∃ (k id n : Int) (A : Option Addr) (b : List UInt8) (c : Nat), v = deedV k id n A b.length c ∧ (0 ≤ id ∧ id < 18446744073709551616) ∧ b.length ≤ c ∧ c ≤ 140737488351232 ∧ Rd w A (b.map bv) := by
  obtain ⟨cs, rfl, hcs⟩ := o_struct_v Try.underlying26 hval
  obtain ⟨fuel, ht⟩ := h
  obtain ⟨hl, n, hf⟩ := o_struct Try.underlying26 (by kernel_rfl) Try.bytes_deed.2.2 ht hs
  obtain ⟨v0, y0, g0, t0, z0⟩ := hf 0 _ rfl
  obtain ⟨v1, y1, g1, t1, z1⟩ := hf 1 _ rfl
  obtain ⟨v2, y2, g2, t2, z2⟩ := hf 2 _ rfl
  obtain ⟨v3, y3, g3, t3, z3⟩ := hf 3 _ rfl
  obtain rfl := list4 hl g0 g1 g2 g3
  obtain ⟨k, rfl, _⟩ := o_u8i Try.underlying22 t0
  obtain ⟨id, rfl, hid⟩ := o_u64i Try.underlying23 t1
  obtain ⟨m, rfl, _⟩ := o_i64 Try.underlying3 _ _ _ t2
  obtain ⟨A, b, c, rfl, hbc, hc, hr⟩ := o_bytes Try.underlying24 Try.underlying5 Try.bytes_deed.1 Try.bytes_deed.2.1 t3 z3
  exact ⟨k, id, m, A, b, c, rfl, hid, hbc, hc, hr⟩
theorem open_row {H : Type} {enc : TypeId × Value → H} {w : World} {b0 base : Nat} {held : Bool} {v : Value} {d : DataW H} {p : List MemPlace} (hval : Value.okWide Try.prog w .any b0 24 v) (h : DataW.Trod enc Try.prog w base (fun _ => true) held 24 v d p) (hs : Sz Try.prog 24 d) :
    ∃ (A : Option Addr) (b : List UInt8) (c : Nat), v = .slice A b.length c ∧ b.length ≤ c ∧ c ≤ 140737488351232 ∧ Rd w A (b.map bv) := by
  obtain ⟨a, l, c, rfl⟩ := okWide_slice Try.underlying24 hval
  obtain ⟨fuel, ht⟩ := h
  exact o_bytes Try.underlying24 Try.underlying5 Try.bytes_deed.1 Try.bytes_deed.2.1 ht hs
end Go.Proofs.Ytedmamchfgkkfaa
/- An argument of layer 18 opened: a list of steps. -/
set_option linter.unusedVariables false
set_option linter.unusedSimpArgs false
namespace Go.Proofs.Ytedmamchfgkkfaa
open Go.RowKit Go.ChangeShapes Go.WideShapes Go.Deep
set_option maxRecDepth 100000
theorem Try.bytes_step : Try.prog.cellsOf 74 = 3 ∧ Try.prog.bytesOf 74 = 40 := ⟨by kernel_rfl, by kernel_rfl⟩
theorem open_steps {H : Type} {enc : TypeId × Value → H} {w : World} {b0 base : Nat} {held : Bool} {v : Value} {d : DataW H} {p : List MemPlace} (hval : Value.okWide Try.prog w .any b0 71 v) (h : DataW.Trod enc Try.prog w base (fun _ => true) held 71 v d p) (hs : Sz Try.prog 71 d) :
    ∃ (A : Option Addr) (l : List Stp) (c : Nat), v = .slice A l.length c ∧ l.length ≤ c ∧ c * 40 ≤ 140737488351232 ∧ Rd w A (l.flatMap stv) := by
  obtain ⟨a, l, c, rfl⟩ := okWide_slice Try.underlying71 hval
  obtain ⟨fuel, ht⟩ := h
  obtain ⟨A, l, c, h1, h2, h3, h4, _⟩ := o_slice stv (fun _ => True) Try.underlying71 Try.bytes_step.1 Try.bytes_step.2 (fun n cs y hl hy hz => by
    obtain ⟨hl, n, hf⟩ := o_struct Try.underlying74 (by kernel_rfl) Try.bytes_step.1 hy hz
    obtain ⟨v0, y0, g0, t0, z0⟩ := hf 0 _ rfl
    obtain ⟨v1, y1, g1, t1, z1⟩ := hf 1 _ rfl
    obtain ⟨v2, y2, g2, t2, z2⟩ := hf 2 _ rfl
    obtain ⟨c0, rfl⟩ := o_bool Try.underlying4 t0
    obtain ⟨c1, rfl, _⟩ := o_str Try.underlying9 _ _ _ t1 z1
    obtain ⟨c2, rfl, _⟩ := o_str Try.underlying9 _ _ _ t2 z2
    refine ⟨⟨c0, c1, c2⟩, ?_, trivial⟩
    match cs, hl with
    | [a0, a1, a2], _ =>
      simp at g0 g1 g2
      subst g0
      subst g1
      subst g2
      rfl) ht hs
  have h1' : [Value.slice a _ _] = [Value.slice A l.length c] := h1
  exact ⟨A, l, c, (List.cons.inj h1').1, h2, h3, h4⟩
end Go.Proofs.Ytedmamchfgkkfaa
