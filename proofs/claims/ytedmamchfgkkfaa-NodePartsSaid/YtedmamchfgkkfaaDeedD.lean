/- Layer 22 (deed) walked: Get. -/
import Derived.Test.YtedmamchfgkkfaaDeedC
namespace Go.Proofs.Ytedmamchfgkkfaa
open Go.RowKit
set_option maxRecDepth 100000
set_option maxHeartbeats 2000000

structure DeedR where
  k : Int
  id : Int
  n : Int
  row : List UInt8
  e : Int
def deedNo (e : Int) : DeedR := ⟨0, 0, 0, [], e⟩
def deedGet (b : List UInt8) : DeedR :=
  if b = [] then deedNo 4 else if (took b 1 0 65504).e ≠ 0 then deedNo (took b 1 0 65504).e
  else if (took b 1 0 65504).p ≠ b.length ∨ 65536 < (took b 1 0 65504).n then deedNo 5
  else if deedMay (b.getD 0 0).toNat (took b 1 0 65504).id (took b 1 0 65504).n (took b 1 0 65504).row.length = false then deedNo 5
  else ⟨(b.getD 0 0).toNat, (took b 1 0 65504).id, (took b 1 0 65504).n, (took b 1 0 65504).row, 0⟩
def RetDeed (r : DeedR) (w : World) (e : Ending) (w' : World) : Prop :=
  ∃ B, e = .returned (.tuple #[deedV r.k r.id r.n B r.row.length r.row.length, .int .i64 r.e]) ∧ App w' w.heap.size 5 1 (.slice B r.row.length r.row.length) r.row.length (r.row.map bv) ∧ Bl w w'
theorem RetDeed.no {r : DeedR} {w w' : World} {e : Int} (h : r = deedNo e) (hb : Bl w w') : RetDeed r w (.returned (.tuple #[deedV 0 0 0 none 0 0, .int .i64 e])) w' := by
  subst h; exact ⟨none, rfl, App.nil _ _ _ _, hb⟩
theorem Try.sizeDeed : (Try.prog.info? 26).map (·.size) = some 4 := by kernel_rfl
theorem took_facts (b : List UInt8) (p e most : Int) : 0 ≤ (took b p e most).id ∧ (took b p e most).id < 18446744073709551616 ∧ 0 ≤ (took b p e most).n ∧ (took b p e most).n < 18446744073709551616 := by
  have key : ∀ q f, 0 ≤ (rdNum b q f).1 ∧ (rdNum b q f).1 < 18446744073709551616 := by
    intro q f
    unfold rdNum
    split
    · simp
    · rcases lebGet_or b q with ⟨g, h, hg, _⟩ | ⟨v, m, h, hv, _⟩
      · rw [h, if_neg hg]; simp
      · rw [h, if_pos rfl]; simp only; omega
  have h1 := key p e
  have h2 := key (rdNum b p e).2.1 (rdNum b p e).2.2
  exact ⟨h1.1, h1.2, h2.1, h2.2⟩

theorem took_len (b : List UInt8) (hb : b.length ≤ 140737488351232) : (took b 1 0 65504).row.length ≤ 281474976710656 := by
  have key : ∀ p e, (rdRow b p e 65504).1.length ≤ b.length := by
    intro p e
    unfold rdRow
    split
    · simp
    · rcases lebRow_or b p 65504 with ⟨f, h, hf, _⟩ | ⟨xs, m, h, h1, h2, h3⟩
      · rw [h, if_neg hf]; simp
      · rw [h, if_pos rfl]; exact h3
  exact Nat.le_trans (key _ _) (by omega)
theorem deed_Get (A : Option Addr) (c : Nat) (b : List UInt8) (w : World) (hb : b.length ≤ 140737488351232) (hcb : b.length ≤ c) (hr : Rd w A (b.map bv)) :
    Calls Try.prog 21 #[.slice A b.length c] w (RetDeed (deedGet b) w) := by
  have hmf : ∀ (fn : Fn) (first cap : Array Value) (w : World), (Instr.makeFunc fn first cap).run Try.prog w = .ok (.func fn first cap) w := fun _ _ _ _ => rfl
  by_cases hnil : b = []
  · have HP := Lib.hid (show deedGet b = deedNo 4 by unfold deedGet; rw [if_pos hnil])
    have hl : ((b.length : Int) == 0) = true := by subst hnil; rfl
    have hl2 : b.length = 0 := by subst hnil; rfl
    clear hnil hr
    go_enter Try.func21, Try.ntmps21
    go_wp2_with fail
    refine bodyPost_ret (v := .tuple #[deedV 0 0 0 none 0 0, .int .i64 4]) (results_ct rfl _ _ (Ob.new w _ 26) rfl rfl Try.underlying26 rfl Try.sizeDeed) rfl ?_
    exact RetDeed.no HP.out ((Bl.refl w).alloc _)
  · have hl : ((b.length : Int) == 0) = false := by rw [beq_eq_false_iff_ne]; have := List.length_pos_iff.2 hnil; omega
    have hpos := List.length_pos_iff.2 hnil
    have HR := Lib.hid hr
    have HAP := Lib.hid (hr.apart (by simpa using hnil))
    have HD := Lib.hid (show deedGet b = _ from by unfold deedGet; rw [if_neg hnil])
    clear hnil hr
    generalize ht : took b 1 0 65504 = t at HD
    have HT := Lib.hid ht
    clear ht
    go_enter Try.func21, Try.ntmps21
    go_wp2_with fail
    have HW3 := Lib.hid (((Bl.refl w).alloc (.cells #[.int .u8 0, .int .u64 0, .int .i64 0, .slice none 0 0] 26)).alloc (.cells #[.slice A b.length c, .int .i64 1, .int .i64 0] 85) |>.alloc (.cells #[.pointer (some ⟨w.heap.size + 1, 0, none⟩)] 83))
    have oV : Ob (((w.alloc (.cells #[.int .u8 0, .int .u64 0, .int .i64 0, .slice none 0 0] 26)).alloc (.cells #[.slice A b.length c, .int .i64 1, .int .i64 0] 85)).alloc (.cells #[.pointer (some ⟨w.heap.size + 1, 0, none⟩)] 83)) (w.heap.size + 1 + 1) 83 #[.pointer (some ⟨w.heap.size + 1, 0, none⟩)] := by
      have := Ob.new ((w.alloc (.cells #[.int .u8 0, .int .u64 0, .int .i64 0, .slice none 0 0] 26)).alloc (.cells #[.slice A b.length c, .int .i64 1, .int .i64 0] 85)) #[.pointer (some ⟨w.heap.size + 1, 0, none⟩)] 83
      simpa using this
    have oR : Ob (((w.alloc (.cells #[.int .u8 0, .int .u64 0, .int .i64 0, .slice none 0 0] 26)).alloc (.cells #[.slice A b.length c, .int .i64 1, .int .i64 0] 85)).alloc (.cells #[.pointer (some ⟨w.heap.size + 1, 0, none⟩)] 83)) (w.heap.size + 1) 85 #[.slice A b.length c, .int .i64 1, .int .i64 0] := by
      have := (Ob.new (w.alloc (.cells #[.int .u8 0, .int .u64 0, .int .i64 0, .slice none 0 0] 26)) #[.slice A b.length c, .int .i64 1, .int .i64 0] 85).bl ((Bl.refl _).alloc (.cells #[.pointer (some ⟨w.heap.size + 1, 0, none⟩)] 83))
      simpa using this
    have oD : Ob (((w.alloc (.cells #[.int .u8 0, .int .u64 0, .int .i64 0, .slice none 0 0] 26)).alloc (.cells #[.slice A b.length c, .int .i64 1, .int .i64 0] 85)).alloc (.cells #[.pointer (some ⟨w.heap.size + 1, 0, none⟩)] 83)) w.heap.size 26 #[.int .u8 0, .int .u64 0, .int .i64 0, .slice none 0 0] :=
      (Ob.new w #[.int .u8 0, .int .u64 0, .int .i64 0, .slice none 0 0] 26).bl (((Bl.refl _).alloc _).alloc _)
    refine (deed_Get1 (w.heap.size + 1 + 1) (w.heap.size + 1) A c b 1 0 _ hb hcb (by unfold Hid; omega) (HR.out.bl HW3.out) (fun a ha => by have := HAP.out a ha; omega) (by omega) oV oR).mono ?_
    rintro e w3 ⟨B, rfl, hown, hob, hch⟩
    have hf := took_facts b 1 0 65504
    rw [HT.out] at hown hob hf
    rw [HT.out]
    have hv3 := oV.ch hch (by simp)
    have hd3 := oD.ch hch (by simp)
    have HV := Lib.hid hv3
    have HDD := Lib.hid hd3
    have v0 := hv3.cell 0 rfl
    have r0 := hob.cell 0 rfl
    have r1 := hob.cell 1 rfl
    have r2 := hob.cell 2 rfl
    have hbl : Bl w w3 := (HW3.out.ch [w.heap.size + 1]).same hch |>.bl (by simp)
    have HB := Lib.hid hbl
    have HOW := Lib.hid (hown.mono (by simp; omega : w.heap.size ≤ _))
    have HF := Lib.hid hf
    have HOR := Lib.hid hob
    have HLEN := Lib.hid (show t.row.length ≤ 281474976710656 by rw [← HT.out]; exact took_len b hb)
    clear hch hown oV oR oD hbl hv3 hob hf
    by_cases hte : t.e = 0
    · have te1 : (t.e != 0) = false := by simpa using hte
      have HD2 := Lib.hid (HD.out.trans (if_neg (by simpa using hte)))
      have hn0 : 0 ≤ t.n := HF.out.2.2.1
      clear HD hte
      by_cases hbad : t.p ≠ b.length ∨ 65536 < t.n
      · have HP := Lib.hid (HD2.out.trans (if_pos hbad))
        have d0 := hd3.cell 0 rfl
        have d1 := hd3.cell 1 rfl
        have d2 := hd3.cell 2 rfl
        have d3 := hd3.cell 3 rfl
        have f0 := hd3.free 0
        have f1 := hd3.free 1
        have f2 := hd3.free 2
        have f3 := hd3.free 3
        clear hd3
        by_cases hpb : t.p = b.length
        · have b1 : (t.p != (b.length : Int)) = false := by simpa using hpb
          have hn : 65536 < t.n := by rcases hbad with h | h; exact absurd hpb h; exact h
          clear hbad hpb
          go_wp2_with fail
          refine bodyPost_ret (v := .tuple #[deedV 0 0 0 none 0 0, .int .i64 5]) (results_ct rfl _ _ (HDD.out.set4 _ _ _ _).1 rfl rfl Try.underlying26 rfl Try.sizeDeed) rfl ?_
          exact RetDeed.no HP.out ((HB.out.ch [w.heap.size]).same (HDD.out.set4 _ _ _ _).2 |>.bl (by simp))
        · have b1 : (t.p != (b.length : Int)) = true := by simpa using hpb
          clear hbad hpb
          go_wp2_with fail
          refine bodyPost_ret (v := .tuple #[deedV 0 0 0 none 0 0, .int .i64 5]) (results_ct rfl _ _ (HDD.out.set4 _ _ _ _).1 rfl rfl Try.underlying26 rfl Try.sizeDeed) rfl ?_
          exact RetDeed.no HP.out ((HB.out.ch [w.heap.size]).same (HDD.out.set4 _ _ _ _).2 |>.bl (by simp))
      · have HD3 := Lib.hid (HD2.out.trans (if_neg hbad))
        have b1 : (t.p != (b.length : Int)) = false := by simp; omega
        have hn : t.n ≤ 65536 := by omega
        obtain ⟨x, hx⟩ := get_some b 0 hpos
        have hx0 : b.getD 0 0 = x := by simp [List.getD_eq_getElem?_getD, hx]
        rw [hx0] at HD3
        obtain ⟨Ab, Ao, rfl, hcx⟩ := (HR.out.bl HB.out).get hx
        rw [Nat.add_zero] at hcx
        have hwn : wrap64 t.n = t.n := by unfold wrap64; omega
        clear hbad hx hx0 HD2 hd3
        simp only [bv] at hcx
        cases hmay : deedMay x.toNat t.id t.n t.row.length
        · have HMAY := Lib.hid hmay
          have HP := Lib.hid (HD3.out.trans (if_pos hmay))
          clear hmay
          go_wp2_with (first
            | (go_at_call 15; go_must (refine (deed_May _ t.id t.n B t.row.length t.row.length _ HLEN.out).mono ?_); rintro e w4 ⟨rfl, hbl4⟩; rw [HMAY.out]; have hb4 := Bl.trans ((Bl.refl w3).alloc _) hbl4; have hD4 := Lib.hid (Ob.bl HDD.out hb4); obtain ⟨d0, d1, d2, d3, f0, f1, f2, f3⟩ := Ob.all4 hD4.out))
          refine bodyPost_ret (v := .tuple #[deedV 0 0 0 none 0 0, .int .i64 5]) (results_ct rfl _ _ (hD4.out.set4 _ _ _ _).1 rfl rfl Try.underlying26 rfl Try.sizeDeed) rfl ?_
          exact RetDeed.no HP.out (((HB.out.trans hb4).ch [w.heap.size]).same (hD4.out.set4 _ _ _ _).2 |>.bl (by simp))
        · have HMAY := Lib.hid hmay
          have HP := Lib.hid (HD3.out.trans (if_neg (by rw [hmay]; simp)))
          clear hmay
          go_wp2_with (first
            | (go_at_call 15; go_must (refine (deed_May _ t.id t.n B t.row.length t.row.length _ HLEN.out).mono ?_); rintro e w4 ⟨rfl, hbl4⟩; rw [HMAY.out]; have hb4 := Bl.trans ((Bl.refl w3).alloc _) hbl4; have hD4 := Lib.hid (Ob.bl HDD.out hb4); obtain ⟨d0, d1, d2, d3, f0, f1, f2, f3⟩ := Ob.all4 hD4.out; obtain ⟨g0, g1, g2, g3, _⟩ := Ob.all4 (Ob.bl (Ob.new w3 _ 26) hbl4)))
          refine bodyPost_ret (v := .tuple #[deedV x.toNat t.id t.n B t.row.length t.row.length, .int .i64 0]) (results_ct rfl _ _ (hD4.out.set4 _ _ _ _).1 rfl rfl Try.underlying26 rfl Try.sizeDeed) rfl ?_
          unfold RetDeed
          rw [HP.out]
          refine ⟨B, rfl, App.ch (HOW.out.bl hb4) (hD4.out.set4 _ _ _ _).2 (fun g hg => by simp at hg; subst hg; exact hD4.out.app (HOW.out.bl hb4) (by decide)), ((HB.out.trans hb4).ch [w.heap.size]).same (hD4.out.set4 _ _ _ _).2 |>.bl (by simp)⟩
    · have te1 : (t.e != 0) = true := by simpa using hte
      have HP := Lib.hid (show deedGet b = deedNo t.e by rw [HD.out, if_pos hte])
      have d0 := hd3.cell 0 rfl
      have d1 := hd3.cell 1 rfl
      have d2 := hd3.cell 2 rfl
      have d3 := hd3.cell 3 rfl
      have f0 := hd3.free 0
      have f1 := hd3.free 1
      have f2 := hd3.free 2
      have f3 := hd3.free 3
      clear hte hd3
      go_wp2_with fail
      go_region
      go_wp2_with fail
      refine bodyPost_ret (v := .tuple #[deedV 0 0 0 none 0 0, .int .i64 t.e]) (results_ct rfl _ _ (Ob.bl (HDD.out.set4 _ _ _ _).1 (Bl.refl _).drew) rfl rfl Try.underlying26 rfl Try.sizeDeed) rfl ?_
      exact RetDeed.no HP.out (Bl.drew ((HB.out.ch [w.heap.size]).same (HDD.out.set4 _ _ _ _).2 |>.bl (by simp)))
end Go.Proofs.Ytedmamchfgkkfaa
