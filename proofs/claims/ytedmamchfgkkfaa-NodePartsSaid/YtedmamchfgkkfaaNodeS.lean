/- The reference of layer 18 (node) walked: Part. -/
import Derived.Test.YtedmamchfgkkfaaNodeR
set_option linter.unusedVariables false
set_option linter.unusedSimpArgs false
namespace Go.Proofs.Ytedmamchfgkkfaa
open Go.RowKit
set_option maxRecDepth 100000
set_option maxHeartbeats 8000000

/-- A list of n elements of the call's own. -/
def TX (n : Nat) (xs : List ByteArray) (w : World) (e : Ending) (w' : World) : Prop := ∃ A c, e = .returned (.slice A n c) ∧ App w' w.heap.size 9 1 (.slice A n c) n (xs.map sv) ∧ Bl w w'
def NX (n : Nat) (xs : List Int) (w : World) (e : Ending) (w' : World) : Prop := ∃ A c, e = .returned (.slice A n c) ∧ App w' w.heap.size 3 1 (.slice A n c) n (xs.map iv) ∧ Bl w w'
theorem texts_n (n : Nat) (A : Option Addr) (c : Nat) (xs : List ByteArray) (w : World) (hn : xs.length = n) (hl : n * 16 ≤ 140737488355328) (hr : Rd w A (xs.map sv)) : Calls Try.prog 87 #[.slice A n c] w (TX n xs w) := by
  subst hn
  refine (ref_texts A c xs w hl hr).mono ?_
  rintro e w' ⟨A', c', h1, _, h2, h3⟩
  exact ⟨A', c', h1, h2, h3⟩
theorem ints_n (n : Nat) (A : Option Addr) (c : Nat) (xs : List Int) (w : World) (hn : xs.length = n) (hl : n * 8 ≤ 140737488355328) (hr : Rd w A (xs.map iv)) : Calls Try.prog 88 #[.slice A n c] w (NX n xs w) := by
  subst hn
  refine (ref_copyInts A c xs w hl hr).mono ?_
  rintro e w' ⟨A', c', h1, _, h2, h3⟩
  exact ⟨A', c', h1, h2, h3⟩
theorem two_setup (w : World) (k : Int) :
    Ob ((w.alloc (.cells #[.int .u8 k, .slice none 0 0, .slice none 0 0, .slice none 0 0] 52)).alloc (.cells #[.int .u8 k, .slice none 0 0, .slice none 0 0, .slice none 0 0] 52)) w.heap.size 52 #[.int .u8 k, .slice none 0 0, .slice none 0 0, .slice none 0 0] ∧
    Ob ((w.alloc (.cells #[.int .u8 k, .slice none 0 0, .slice none 0 0, .slice none 0 0] 52)).alloc (.cells #[.int .u8 k, .slice none 0 0, .slice none 0 0, .slice none 0 0] 52)) (w.heap.size + 1) 52 #[.int .u8 k, .slice none 0 0, .slice none 0 0, .slice none 0 0] := by
  refine ⟨?_, ?_⟩
  all_goals simp only [Ob, heap_alloc_at, heap_alloc_size, if_true] <;> (repeat' split) <;> first | rfl | omega
theorem ref_nodePart (k : Int) (A B I : Option Addr) (keys vals : List ByteArray) (kids : List Int) (c d ci : Nat) (w : World) (hk : keys.length * 16 ≤ 140737488355328) (hv : vals.length * 16 ≤ 140737488355328) (hn : kids.length * 8 ≤ 140737488355328) (hkc : keys.length ≤ c) (hvd : vals.length ≤ d) (hic : kids.length ≤ ci)
    (rk : Rd w A (keys.map sv)) (rv : Rd w B (vals.map sv)) (rn : Rd w I (kids.map iv)) :
    Calls Try.prog 48 #[nodeV k A keys.length c B vals.length d I kids.length ci] w (RetPart (nodePart k keys vals kids) w) := by
  have RK := Lib.hid rk
  have RV := Lib.hid rv
  have RN := Lib.hid rn
  obtain ⟨o1, o2, o3⟩ := part_setup w #[.int .u8 k, .slice A keys.length c, .slice B vals.length d, .slice I kids.length ci]
  have HO := Lib.hid o1
  have HY := Lib.hid o2
  have HZ := Lib.hid o3
  have HW := Lib.hid ((((Bl.refl w).alloc (.cells #[.int .u8 k, .slice A keys.length c, .slice B vals.length d, .slice I kids.length ci] 52)).alloc (.cells #[.int .u8 0, .slice none 0 0, .slice none 0 0, .slice none 0 0] 52)).alloc (.cells #[.int .u8 0, .slice none 0 0, .slice none 0 0, .slice none 0 0] 52))
  have hwide := ref_nodeWide k A B I keys vals kids c d ci
  clear rk rv rn o1 o2 o3
  go_enter Try.func48, Try.ntmps48
  go_wp2_with (go_at_call 35; fail_if_success skip)
  generalize (((w.alloc (.cells #[.int .u8 k, .slice A keys.length c, .slice B vals.length d, .slice I kids.length ci] 52)).alloc (.cells #[.int .u8 0, .slice none 0 0, .slice none 0 0, .slice none 0 0] 52)).alloc (.cells #[.int .u8 0, .slice none 0 0, .slice none 0 0, .slice none 0 0] 52)) = u at HO HY HZ HW ⊢
  refine (hwide u (by omega) (by omega) (by omega) (RK.out.bl HW.out) (RV.out.bl HW.out) (RN.out.bl HW.out)).mono ?_
  clear hwide
  rintro e w1 ⟨rfl, hbl1⟩
  have HO1 := Lib.hid (HO.out.bl hbl1)
  have HY1 := Lib.hid (HY.out.bl hbl1)
  have HZ1 := Lib.hid (HZ.out.bl hbl1)
  have HW1 := Lib.hid (HW.out.trans hbl1)
  obtain ⟨o0, o1, o2, o3, _⟩ := Ob.all4 HO1.out
  obtain ⟨y0, y1, y2, y3, yf0, yf1, yf2, yf3⟩ := Ob.all4 HY1.out
  obtain ⟨z0, z1, z2, z3, zf0, zf1, zf2, zf3⟩ := Ob.all4 HZ1.out
  clear hbl1 HO HY HZ HW
  by_cases hbad : nodeRight k keys vals kids 12 13 = false ∨ keys.length ≤ 6
  · have HP := Lib.hid (show nodePart k keys vals kids = ⟨ndNil, ⟨#[]⟩, ndNil, 2⟩ by unfold nodePart; rw [if_pos hbad])
    cases hr : nodeRight k keys vals kids 12 13
    · clear hbad
      go_wp2_with fail
      refine bodyPost_ret (v := .tuple #[.agg #[.int .u8 0, .slice none 0 0, .slice none 0 0, .slice none 0 0], .string ⟨#[]⟩, .agg #[.int .u8 0, .slice none 0 0, .slice none 0 0, .slice none 0 0], .int .i64 2]) (results_ctct (v := .string ⟨#[]⟩) (v2 := .int .i64 2) rfl _ _ (((HY1.out.set4 _ _ _ _).1).ch (HZ1.out.ch (HY1.out.set4 (.int .u8 0) (.slice none 0 0) (.slice none 0 0) (.slice none 0 0)).2 (by simp) |>.set4 (.int .u8 0) (.slice none 0 0) (.slice none 0 0) (.slice none 0 0)).2 (by simp)) ((HZ1.out.ch (HY1.out.set4 (.int .u8 0) (.slice none 0 0) (.slice none 0 0) (.slice none 0 0)).2 (by simp)).set4 _ _ _ _).1 rfl rfl rfl rfl Try.underlying52 rfl Try.sizeNode Try.sizeNode) rfl ?_
      unfold RetPart
      rw [HP.out]
      exact ⟨_, _, rfl, RdNd.nil _, RdNd.nil _, (((HW1.out.ch [w.heap.size + 1, w.heap.size + 1 + 1]).same ((HY1.out.set4 _ _ _ _).2.mono (by simp))).same ((HZ1.out.ch (HY1.out.set4 (.int .u8 0) (.slice none 0 0) (.slice none 0 0) (.slice none 0 0)).2 (by simp)).set4 _ _ _ _ |>.2.mono (by simp))).bl (by intro g hg; simp at hg; omega)⟩
    · have h6 : keys.length ≤ 6 := by
        rcases hbad with h | h
        · rw [hr] at h; cases h
        · exact h
      clear hbad
      go_wp2_with fail
      refine bodyPost_ret (v := .tuple #[.agg #[.int .u8 0, .slice none 0 0, .slice none 0 0, .slice none 0 0], .string ⟨#[]⟩, .agg #[.int .u8 0, .slice none 0 0, .slice none 0 0, .slice none 0 0], .int .i64 2]) (results_ctct (v := .string ⟨#[]⟩) (v2 := .int .i64 2) rfl _ _ (((HY1.out.set4 _ _ _ _).1).ch (HZ1.out.ch (HY1.out.set4 (.int .u8 0) (.slice none 0 0) (.slice none 0 0) (.slice none 0 0)).2 (by simp) |>.set4 (.int .u8 0) (.slice none 0 0) (.slice none 0 0) (.slice none 0 0)).2 (by simp)) ((HZ1.out.ch (HY1.out.set4 (.int .u8 0) (.slice none 0 0) (.slice none 0 0) (.slice none 0 0)).2 (by simp)).set4 _ _ _ _).1 rfl rfl rfl rfl Try.underlying52 rfl Try.sizeNode Try.sizeNode) rfl ?_
      unfold RetPart
      rw [HP.out]
      exact ⟨_, _, rfl, RdNd.nil _, RdNd.nil _, (((HW1.out.ch [w.heap.size + 1, w.heap.size + 1 + 1]).same ((HY1.out.set4 _ _ _ _).2.mono (by simp))).same ((HZ1.out.ch (HY1.out.set4 (.int .u8 0) (.slice none 0 0) (.slice none 0 0) (.slice none 0 0)).2 (by simp)).set4 _ _ _ _ |>.2.mono (by simp))).bl (by intro g hg; simp at hg; omega)⟩
  · have hr : nodeRight k keys vals kids 12 13 = true := by
      cases hr : nodeRight k keys vals kids 12 13
      · exact absurd (.inl hr) hbad
      · rfl
    have h6 : 6 < keys.length := by omega
    rw [hr]
    obtain ⟨hko, hcase⟩ := nodeRight_or hr
    rcases hcase with ⟨hk1, hk12, hvl, hkn, hvo⟩ | ⟨hk2, hk1, hk13, hkl, hvn, hno⟩
    · subst hk1
      subst hkn
      obtain ⟨m, hm⟩ : ∃ m : Nat, m = keys.length - keys.length / 2 := ⟨_, rfl⟩
      have HP := Lib.hid (show nodePart 1 keys vals [] = ⟨⟨1, keys.take m, vals.take m, []⟩, keys.getD m .empty, ⟨1, keys.drop m, vals.drop m, []⟩, 0⟩ by unfold nodePart; rw [if_neg hbad, if_pos rfl, ← hm])
      have HVL := Lib.hid hvl
      have hvm : m ≤ vals.length := by omega
      have em : ((keys.length : Int) - (keys.length : Int) / 2) = (m : Int) := by omega
      have hmk : m < keys.length := by omega
      obtain ⟨x, hx⟩ := get_some keys m hmk
      obtain ⟨b, o, rfl, hcx⟩ := RK.out.get hx
      simp only [sv] at hcx
      have HCX := Lib.hid hcx
      have HX := Lib.hid (getD_of hx ByteArray.empty)
      clear hbad hr hko hvo hvl hm
      clear hx hcx
      simp only [List.length_nil] at HO1 o2 o3 ⊢
      obtain ⟨t6, t7⟩ := two_setup w1 1
      have H6 := Lib.hid t6
      have H7 := Lib.hid t7
      have hbv := ((Bl.refl w1).alloc (.cells #[.int .u8 1, .slice none 0 0, .slice none 0 0, .slice none 0 0] 52)).alloc (.cells #[.int .u8 1, .slice none 0 0, .slice none 0 0, .slice none 0 0] 52)
      have HO2 := Lib.hid (HO1.out.bl hbv)
      have HY2 := Lib.hid (HY1.out.bl hbv)
      have HZ2 := Lib.hid (HZ1.out.bl hbv)
      have HW2 := Lib.hid (HW1.out.trans hbv)
      have hlt1 := HZ1.out.lt
      obtain ⟨p0, p1, p2, p3, _⟩ := Ob.all4 (HO1.out.bl ((Bl.refl w1).alloc (.cells #[.int .u8 1, .slice none 0 0, .slice none 0 0, .slice none 0 0] 52)))
      obtain ⟨r0, r1, r2, r3, _⟩ := Ob.all4 HO2.out
      clear t6 t7 hbv y0 y1 y2 y3 yf0 yf1 yf2 yf3 z0 z1 z2 z3 zf0 zf1 zf2 zf3
      go_upto_region 8 with (fail)
      clear em o0 o1 o2 o3 p0 p1 p2 p3 r0 r1 r2 r3
      generalize (w1.alloc (.cells #[.int .u8 1, .slice none 0 0, .slice none 0 0, .slice none 0 0] 52)).alloc (.cells #[.int .u8 1, .slice none 0 0, .slice none 0 0, .slice none 0 0] 52) = v at H6 H7 HO2 HY2 HZ2 HW2 ⊢
      have hlt7 := H7.out.lt
      generalize hg7 : w1.heap.size + 1 = g7 at H7 hlt7 ⊢
      generalize hg6 : w1.heap.size = g6 at H6 hlt1 hg7 ⊢
      have HK : Hid (∀ w' : World, Ch [g6, g7] v w' → w'.cell? ⟨w.heap.size, 0, none⟩ = some (.int .u8 1) ∧ w'.cell? ⟨w.heap.size, 1, none⟩ = some (.slice (some ⟨b, o, none⟩) keys.length c) ∧ w'.cell? ⟨w.heap.size, 2, none⟩ = some (.slice B vals.length d) ∧ w'.cell? ⟨w.heap.size, 3, none⟩ = some (.slice I 0 ci) ∧ Ch [g6, g7] v w') := fun w' h => by
        obtain ⟨a0, a1, a2, a3, _⟩ := Ob.all4 (HO2.out.ch h (by simp; omega))
        exact ⟨a0, a1, a2, a3, h⟩
      have HRA : Hid (∀ w', Ch [g6, g7] v w' → Rd w' (some ⟨b, o, none⟩) (keys.map sv)) := fun w' h => RK.out.later HW2.out h (by intro g hg; simp at hg; omega)
      have HRB : Hid (∀ w', Ch [g6, g7] v w' → Rd w' B (vals.map sv)) := fun w' h => RV.out.later HW2.out h (by intro g hg; simp at hg; omega)
      have HRX : Hid (∀ w', Ch [g6, g7] v w' → w'.cell? ⟨b, o + m, none⟩ = some (.string x)) := fun w' h => ((HW2.out.ch [g6, g7]).same h |>.bl (by intro g hg; simp at hg; omega)).cellAt HCX.out
      have q1 : Hid (∀ w', Ch [g6, g7] v w' → Calls Try.prog 87 #[.slice (some ⟨b, o, none⟩) m c] w' (TX m (keys.take m) w')) := fun w' h => texts_n m (some ⟨b, o, none⟩) c (keys.take m) w' (by simp; omega) (by omega) (by rw [List.map_take]; exact (HRA.out w' h).take m)
      have q2 : Hid (∀ w', Ch [g6, g7] v w' → Calls Try.prog 87 #[.slice B m d] w' (TX m (vals.take m) w')) := fun w' h => texts_n m B d (vals.take m) w' (by simp; omega) (by omega) (by rw [List.map_take]; exact (HRB.out w' h).take m)
      have q3 : Hid (∀ w', Ch [g6, g7] v w' → Calls Try.prog 87 #[.slice (cutAddr (some ⟨b, o, none⟩) 1 m c) (keys.length - m) (c - m)] w' (TX (keys.length - m) (keys.drop m) w')) := fun w' h => texts_n (keys.length - m) (cutAddr (some ⟨b, o, none⟩) 1 m c) (c - m) (keys.drop m) w' (by simp) (by omega) (by have := (HRA.out w' h).cutTo 1 m c (by intro e; simp; omega); simpa [List.map_drop] using this)
      have q4 : Hid (∀ w', Ch [g6, g7] v w' → Calls Try.prog 87 #[.slice (cutAddr B 1 m d) (vals.length - m) (d - m)] w' (TX (vals.length - m) (vals.drop m) w')) := fun w' h => texts_n (vals.length - m) (cutAddr B 1 m d) (d - m) (vals.drop m) w' (by simp) (by omega) (by have := (HRB.out w' h).cutTo 1 m d (by intro e; simp; omega); simpa [List.map_drop] using this)
      have H67 : g6 ≠ g7 ∧ g7 ≠ g6 := ⟨by omega, by omega⟩
      obtain ⟨ne1, ne2⟩ := H67
      go_cut [] (fun wx => Hid (∃ (A5 : Option Addr) (c5 : Nat) (B5 : Option Addr) (d5 : Nat), Ob wx g6 52 #[.int .u8 1, .slice A5 m c5, .slice B5 m d5, .slice none 0 0] ∧ App wx v.heap.size 9 1 (.slice A5 m c5) m ((keys.take m).map sv) ∧ App wx v.heap.size 9 1 (.slice B5 m d5) m ((vals.take m).map sv) ∧ Ch [g6] v wx))
      case first =>
        have r1 := cut_h (P := Try.prog) 49 9 1 Try.underlying49 Try.sizeStr (some ⟨b, o, none⟩) keys.length c m (by omega)
        have r2 := cut_h (P := Try.prog) 49 9 1 Try.underlying49 Try.sizeStr B vals.length d m (by omega)
        go_region_held3 (fun w' => w'.cell? ⟨w.heap.size, 0, none⟩ = some (.int .u8 1) ∧ w'.cell? ⟨w.heap.size, 1, none⟩ = some (.slice (some ⟨b, o, none⟩) keys.length c) ∧ w'.cell? ⟨w.heap.size, 2, none⟩ = some (.slice B vals.length d) ∧ w'.cell? ⟨w.heap.size, 3, none⟩ = some (.slice I 0 ci) ∧ Ch [g6, g7] v w')
          (exact HK.out _ (by (focus ((repeat (first | with_reducible assumption | with_reducible exact Ch.refl _ _ | with_reducible refine Ch.drew ?_ | with_reducible refine Ch.drewN ?_ _ | with_reducible refine Ch.alloc ?_ _ | with_reducible refine Ch.cellput ?_ (by simp) _ | (with_reducible refine Ch.same ?_ (by with_reducible assumption)) | (with_reducible refine Ch.step ?_ (by with_reducible assumption)))); done))))
          (first
            | (go_at_call 87; (with_reducible refine (q1.out _ (by (focus ((repeat (first | with_reducible assumption | with_reducible exact Ch.refl _ _ | with_reducible refine Ch.drew ?_ | with_reducible refine Ch.drewN ?_ _ | with_reducible refine Ch.alloc ?_ _ | with_reducible refine Ch.cellput ?_ (by simp) _ | (with_reducible refine Ch.same ?_ (by with_reducible assumption)) | (with_reducible refine Ch.step ?_ (by with_reducible assumption)))); done)))).mono ?_); rintro e w5a ⟨A5, c5, rfl, hA5, hbl5a⟩)
            | (go_at_call 87; (with_reducible refine (q2.out _ (by (focus ((repeat (first | with_reducible assumption | with_reducible exact Ch.refl _ _ | with_reducible refine Ch.drew ?_ | with_reducible refine Ch.drewN ?_ _ | with_reducible refine Ch.alloc ?_ _ | with_reducible refine Ch.cellput ?_ (by simp) _ | (with_reducible refine Ch.same ?_ (by with_reducible assumption)) | (with_reducible refine Ch.step ?_ (by with_reducible assumption)))); done)))).mono ?_); rintro e w6a ⟨B5, d5, rfl, hB5, hbl6a⟩; have hb6a : Bl v w6a := (by (focus ((repeat (first | with_reducible assumption | exact Bl.refl _ | refine Bl.drew ?_ | refine Bl.drewN ?_ _ | refine Bl.alloc ?_ _ | (refine Bl.trans ?_ (by with_reducible assumption)))); done))); obtain ⟨y0, y1, y2, y3, yf0, yf1, yf2, yf3⟩ := Ob.all4 (H6.out.bl hb6a)))
        all_goals
          go_wp2_with fail
          go_meet
          case rel =>
            have hob := H6.out.bl hb6a
            have hp := (hob.set 1 (.slice A5 m c5)).set 2 (.slice B5 m d5)
            have hch := (Ch.put w6a g6 1 (.slice A5 m c5)).same (Ch.put _ g6 2 (.slice B5 m d5))
            have h56 : Bl w5a w6a := hbl6a
            have s5 : v.heap.size ≤ w5a.heap.size := by have := hbl5a.size; simpa using this
            refine ⟨A5, c5, B5, d5, by simpa using hp, ((hA5.bl h56).ch hch (fun g hg e => by have := hA5.ge g e; simp at hg this; omega)).mono (by simp), (hB5.ch hch (fun g hg e => by have := hB5.ge g e; simp at hg; omega)).mono (by omega), ((hb6a.ch [g6]).same hch)⟩
      case rest =>
        obtain ⟨A5, c5, B5, d5, hob5, hA5, hB5, hcw⟩ := hcut.out
        have HO5 := Lib.hid hob5
        have HA5 := Lib.hid hA5
        have HB5 := Lib.hid hB5
        have H7b := Lib.hid (H7.out.ch hcw (by simp; omega))
        have hcw1 := hcw.mono (M := [g6, g7]) (by simp)
        have HCW := Lib.hid hcw1
        clear hob5 hA5 hB5 hcw hcw1
        go_upto_region 9 with (fail)
        go_cut [] (fun wx => Hid (∃ (A6 : Option Addr) (c6 : Nat) (B6 : Option Addr) (d6 : Nat), Ob wx g6 52 #[.int .u8 1, .slice A5 m c5, .slice B5 m d5, .slice none 0 0] ∧ Ob wx g7 52 #[.int .u8 1, .slice A6 (keys.length - m) c6, .slice B6 (vals.length - m) d6, .slice none 0 0] ∧ App wx v.heap.size 9 1 (.slice A5 m c5) m ((keys.take m).map sv) ∧ App wx v.heap.size 9 1 (.slice B5 m d5) m ((vals.take m).map sv) ∧ App wx v.heap.size 9 1 (.slice A6 (keys.length - m) c6) (keys.length - m) ((keys.drop m).map sv) ∧ App wx v.heap.size 9 1 (.slice B6 (vals.length - m) d6) (vals.length - m) ((vals.drop m).map sv) ∧ Ch [g6, g7] v wx))
        case first =>
          have hcw := HCW.out
          have wsz := HCW.out.size
          have r1 := cut_l (P := Try.prog) 49 9 1 Try.underlying49 Try.sizeStr (some ⟨b, o, none⟩) keys.length c m (by omega)
          have r2 := cut_l (P := Try.prog) 49 9 1 Try.underlying49 Try.sizeStr B vals.length d m (by omega)
          go_region_held3 (fun w' => w'.cell? ⟨w.heap.size, 0, none⟩ = some (.int .u8 1) ∧ w'.cell? ⟨w.heap.size, 1, none⟩ = some (.slice (some ⟨b, o, none⟩) keys.length c) ∧ w'.cell? ⟨w.heap.size, 2, none⟩ = some (.slice B vals.length d) ∧ w'.cell? ⟨w.heap.size, 3, none⟩ = some (.slice I 0 ci) ∧ Ch [g6, g7] v w')
            (exact HK.out _ (by (focus ((repeat (first | with_reducible assumption | with_reducible exact Ch.refl _ _ | with_reducible refine Ch.drew ?_ | with_reducible refine Ch.drewN ?_ _ | with_reducible refine Ch.alloc ?_ _ | with_reducible refine Ch.cellput ?_ (by simp) _ | (with_reducible refine Ch.same ?_ (by with_reducible assumption)) | (with_reducible refine Ch.step ?_ (by with_reducible assumption)))); done))))
            (first
              | (go_at_call 87; (with_reducible refine (q3.out _ (by (focus ((repeat (first | with_reducible assumption | with_reducible exact Ch.refl _ _ | with_reducible refine Ch.drew ?_ | with_reducible refine Ch.drewN ?_ _ | with_reducible refine Ch.alloc ?_ _ | with_reducible refine Ch.cellput ?_ (by simp) _ | (with_reducible refine Ch.same ?_ (by with_reducible assumption)) | (with_reducible refine Ch.step ?_ (by with_reducible assumption)))); done)))).mono ?_); rintro e w5b ⟨A6, c6, rfl, hA6, hbl5b⟩)
              | (go_at_call 87; (with_reducible refine (q4.out _ (by (focus ((repeat (first | with_reducible assumption | with_reducible exact Ch.refl _ _ | with_reducible refine Ch.drew ?_ | with_reducible refine Ch.drewN ?_ _ | with_reducible refine Ch.alloc ?_ _ | with_reducible refine Ch.cellput ?_ (by simp) _ | (with_reducible refine Ch.same ?_ (by with_reducible assumption)) | (with_reducible refine Ch.step ?_ (by with_reducible assumption)))); done)))).mono ?_); rintro e w6b ⟨B6, d6, rfl, hB6, hbl6b⟩; have hb6b : Bl wc w6b := (by (focus ((repeat (first | with_reducible assumption | exact Bl.refl _ | refine Bl.drew ?_ | refine Bl.drewN ?_ _ | refine Bl.alloc ?_ _ | (refine Bl.trans ?_ (by with_reducible assumption)))); done))); obtain ⟨y0, y1, y2, y3, yf0, yf1, yf2, yf3⟩ := Ob.all4 (H7b.out.bl hb6b)))
          all_goals
            go_wp2_with fail
            go_meet
            case rel =>
              have hob := H7b.out.bl hb6b
              have hp := (hob.set 1 (.slice A6 (keys.length - m) c6)).set 2 (.slice B6 (vals.length - m) d6)
              have hch := (Ch.put w6b g7 1 (.slice A6 (keys.length - m) c6)).same (Ch.put _ g7 2 (.slice B6 (vals.length - m) d6))
              have s5 : wc.heap.size ≤ w5b.heap.size := by have := hbl5b.size; simpa using this
              have key : ∀ {T : TypeId} {v1 : Value} {n bb : Nat} {cs : List Value}, App w6b bb T 1 v1 n cs → v.heap.size ≤ bb → App _ v.heap.size T 1 v1 n cs := fun a hb => (a.ch hch (fun g hg e => by have := a.ge g e; simp at hg; omega)).mono hb
              refine ⟨A6, c6, B6, d6, (HO5.out.bl hb6b).ch hch (by simp; omega), by simpa using hp, key (HA5.out.bl hb6b) (Nat.le_refl _), key (HB5.out.bl hb6b) (Nat.le_refl _), key (hA6.bl hbl6b) (by simp; omega), key hB6 (by omega), ?_⟩
              exact (HCW.out.thenBl hb6b).same (hch.mono (by simp))
        case rest =>
          obtain ⟨A6, c6, B6, d6, hob6, hob7, hA5, hB5, hA6, hB6, hcw⟩ := hcut.out
          have HP6 := Lib.hid hob6
          have HP7 := Lib.hid hob7
          have HC2 := Lib.hid hcw
          have HYc := Lib.hid (HY2.out.ch hcw (by simp; omega))
          have HZc := Lib.hid (HZ2.out.ch hcw (by simp; omega))
          have HQ5 := Lib.hid hA5
          have HQB5 := Lib.hid hB5
          have HQ6 := Lib.hid hA6
          have HQB6 := Lib.hid hB6
          obtain ⟨y0, y1, y2, y3, yf0, yf1, yf2, yf3⟩ := Ob.all4 HYc.out
          obtain ⟨z0, z1, z2, z3, zf0, zf1, zf2, zf3⟩ := Ob.all4 HZc.out
          have HK3 : Hid (∀ w' : World, Ch [w.heap.size + 1, w.heap.size + 1 + 1] wc w' → w'.cell? ⟨w.heap.size, 0, none⟩ = some (.int .u8 1) ∧ w'.cell? ⟨w.heap.size, 1, none⟩ = some (.slice (some ⟨b, o, none⟩) keys.length c) ∧ w'.cell? ⟨w.heap.size, 2, none⟩ = some (.slice B vals.length d) ∧ w'.cell? ⟨w.heap.size, 3, none⟩ = some (.slice I 0 ci) ∧ w'.cell? ⟨b, o + m, none⟩ = some (.string x) ∧ w'.cell? ⟨g6, 0, none⟩ = some (.int .u8 1) ∧ w'.cell? ⟨g6, 1, none⟩ = some (.slice A5 m c5) ∧ w'.cell? ⟨g6, 2, none⟩ = some (.slice B5 m d5) ∧ w'.cell? ⟨g6, 3, none⟩ = some (.slice none 0 0) ∧ w'.cell? ⟨g7, 0, none⟩ = some (.int .u8 1) ∧ w'.cell? ⟨g7, 1, none⟩ = some (.slice A6 (keys.length - m) c6) ∧ w'.cell? ⟨g7, 2, none⟩ = some (.slice B6 (vals.length - m) d6) ∧ w'.cell? ⟨g7, 3, none⟩ = some (.slice none 0 0) ∧ Ch [w.heap.size + 1, w.heap.size + 1 + 1] wc w') := fun w' h => by
            obtain ⟨a0, a1, a2, a3, _⟩ := Ob.all4 ((HO2.out.ch HC2.out (by simp; omega)).ch h (by simp <;> omega))
            obtain ⟨i0, i1, i2, i3, _⟩ := Ob.all4 (HP6.out.ch h (by simp <;> omega))
            obtain ⟨j0, j1, j2, j3, _⟩ := Ob.all4 (HP7.out.ch h (by simp <;> omega))
            have hx : w'.cell? ⟨b, o + m, none⟩ = some (.string x) := (((HW2.out.ch [g6, g7]).same HC2.out |>.bl (by intro g hg; simp at hg; omega)).ch [w.heap.size + 1, w.heap.size + 1 + 1] |>.same h |>.bl (by intro g hg; simp at hg; omega)).cellAt HCX.out
            exact ⟨a0, a1, a2, a3, hx, i0, i1, i2, i3, j0, j1, j2, j3, h⟩
          clear hob6 hob7 hA5 hB5 hA6 hB6 hcw
          go_upto_region 10 with (fail)
          go_region_held3 (fun w' => w'.cell? ⟨w.heap.size, 0, none⟩ = some (.int .u8 1) ∧ w'.cell? ⟨w.heap.size, 1, none⟩ = some (.slice (some ⟨b, o, none⟩) keys.length c) ∧ w'.cell? ⟨w.heap.size, 2, none⟩ = some (.slice B vals.length d) ∧ w'.cell? ⟨w.heap.size, 3, none⟩ = some (.slice I 0 ci) ∧ w'.cell? ⟨b, o + m, none⟩ = some (.string x) ∧ w'.cell? ⟨g6, 0, none⟩ = some (.int .u8 1) ∧ w'.cell? ⟨g6, 1, none⟩ = some (.slice A5 m c5) ∧ w'.cell? ⟨g6, 2, none⟩ = some (.slice B5 m d5) ∧ w'.cell? ⟨g6, 3, none⟩ = some (.slice none 0 0) ∧ w'.cell? ⟨g7, 0, none⟩ = some (.int .u8 1) ∧ w'.cell? ⟨g7, 1, none⟩ = some (.slice A6 (keys.length - m) c6) ∧ w'.cell? ⟨g7, 2, none⟩ = some (.slice B6 (vals.length - m) d6) ∧ w'.cell? ⟨g7, 3, none⟩ = some (.slice none 0 0) ∧ Ch [w.heap.size + 1, w.heap.size + 1 + 1] wc w')
            (exact HK3.out _ (by (focus ((repeat (first | with_reducible assumption | with_reducible exact Ch.refl _ _ | with_reducible refine Ch.drew ?_ | with_reducible refine Ch.drewN ?_ _ | with_reducible refine Ch.alloc ?_ _ | with_reducible refine Ch.cellput ?_ (by simp) _ | (with_reducible refine Ch.same ?_ (by with_reducible assumption)) | (with_reducible refine Ch.step ?_ (by with_reducible assumption)))); done))))
            (first
              | fail)
          all_goals
            go_wp2_with fail
            have hy6 := HYc.out
            have hz6 := HZc.out
            refine bodyPost_ret (v := .tuple #[.agg _, .string x, .agg _, .int .i64 0]) (results_ctct (v := .string x) (v2 := .int .i64 0) rfl _ _ (Ob.bl ((hy6.set4 _ _ _ _).1.ch ((hz6.ch (hy6.set4 _ _ _ _).2 (by simp)).set4 _ _ _ _).2 (by simp)) (Bl.refl _).drew) (Ob.bl ((hz6.ch (hy6.set4 _ _ _ _).2 (by simp)).set4 _ _ _ _).1 (Bl.refl _).drew) rfl rfl rfl rfl Try.underlying52 rfl Try.sizeNode Try.sizeNode) rfl ?_
            unfold RetPart
            rw [HP.out]
            simp only [HX.out]
            have hch : Ch [w.heap.size + 1, w.heap.size + 1 + 1] wc (World.drew (((((((((wc.setCell ⟨w.heap.size + 1, 0, none⟩ (.int .u8 1)).setCell ⟨w.heap.size + 1, 1, none⟩ (.slice A5 m c5)).setCell ⟨w.heap.size + 1, 2, none⟩ (.slice B5 m d5)).setCell ⟨w.heap.size + 1, 3, none⟩ (.slice none 0 0)).setCell ⟨w.heap.size + 1 + 1, 0, none⟩ (.int .u8 1)).setCell ⟨w.heap.size + 1 + 1, 1, none⟩ (.slice A6 (keys.length - m) c6)).setCell ⟨w.heap.size + 1 + 1, 2, none⟩ (.slice B6 (vals.length - m) d6)).setCell ⟨w.heap.size + 1 + 1, 3, none⟩ (.slice none 0 0)))) := (by (focus ((repeat (first | with_reducible assumption | with_reducible exact Ch.refl _ _ | with_reducible refine Ch.drew ?_ | with_reducible refine Ch.drewN ?_ _ | with_reducible refine Ch.alloc ?_ _ | with_reducible refine Ch.cellput ?_ (by simp) _ | (with_reducible refine Ch.same ?_ (by with_reducible assumption)) | (with_reducible refine Ch.step ?_ (by with_reducible assumption)))); done)))
            have key : ∀ {T : TypeId} {n : Nat} {cs : List Value} {A' : Option Addr} {c' : Nat}, App wc v.heap.size T 1 (.slice A' n c') n cs → Rd _ A' cs := fun a => (App.rd (a.ch hch (fun g hg e => by have := a.ge g e; simp at hg; omega))).1
            have l1 : (keys.take m).length = m := by simp; omega
            have l2 : (vals.take m).length = m := by simp; omega
            have l3 : (keys.drop m).length = keys.length - m := by simp
            have l4 : (vals.drop m).length = vals.length - m := by simp
            refine ⟨_, _, rfl, ⟨A5, c5, B5, d5, none, 0, by simp only [l1, l2, List.length_nil], key HQ5.out, key HQB5.out, Rd.nil _ _⟩, ⟨A6, c6, B6, d6, none, 0, by simp only [l3, l4, List.length_nil], key HQ6.out, key HQB6.out, Rd.nil _ _⟩, ?_⟩
            exact (((HW2.out.ch [g6, g7]).same HC2.out |>.bl (by intro g hg; simp at hg; omega)).ch [w.heap.size + 1, w.heap.size + 1 + 1] |>.same hch).bl (by intro g hg; simp at hg; omega)
    · subst hk2
      subst hvn
      obtain ⟨m, hm⟩ : ∃ m : Nat, m = keys.length / 2 := ⟨_, rfl⟩
      have HP := Lib.hid (show nodePart 2 keys [] kids = ⟨⟨2, keys.take m, [], kids.take (m + 1)⟩, keys.getD m .empty, ⟨2, keys.drop (m + 1), [], kids.drop (m + 1)⟩, 0⟩ by unfold nodePart; rw [if_neg hbad, if_neg (by decide), ← hm])
      have HVL := Lib.hid hkl
      have hvm : m + 1 ≤ kids.length := by omega
      have em : ((keys.length : Int) / 2) = (m : Int) := by omega
      have ew : wrap64 ((m : Int) + 1) = (m : Int) + 1 := by unfold wrap64; omega
      have ew2 : IntKind.i64.wrap ((m : Int) + 1) = (m : Int) + 1 := by rw [IntKind.wrap_i64]; omega
      have hmk : m < keys.length := by omega
      obtain ⟨x, hx⟩ := get_some keys m hmk
      obtain ⟨b, o, rfl, hcx⟩ := RK.out.get hx
      simp only [sv] at hcx
      have HCX := Lib.hid hcx
      have HX := Lib.hid (getD_of hx ByteArray.empty)
      clear hbad hr hko hno hkl hm
      clear hx hcx
      simp only [List.length_nil] at HO1 o2 o3 ⊢
      obtain ⟨t6, t7⟩ := two_setup w1 2
      have H6 := Lib.hid t6
      have H7 := Lib.hid t7
      have hbv := ((Bl.refl w1).alloc (.cells #[.int .u8 2, .slice none 0 0, .slice none 0 0, .slice none 0 0] 52)).alloc (.cells #[.int .u8 2, .slice none 0 0, .slice none 0 0, .slice none 0 0] 52)
      have HO2 := Lib.hid (HO1.out.bl hbv)
      have HY2 := Lib.hid (HY1.out.bl hbv)
      have HZ2 := Lib.hid (HZ1.out.bl hbv)
      have HW2 := Lib.hid (HW1.out.trans hbv)
      have hlt1 := HZ1.out.lt
      obtain ⟨p0, p1, p2, p3, _⟩ := Ob.all4 (HO1.out.bl ((Bl.refl w1).alloc (.cells #[.int .u8 2, .slice none 0 0, .slice none 0 0, .slice none 0 0] 52)))
      obtain ⟨r0, r1, r2, r3, _⟩ := Ob.all4 HO2.out
      clear t6 t7 hbv y0 y1 y2 y3 yf0 yf1 yf2 yf3 z0 z1 z2 z3 zf0 zf1 zf2 zf3
      go_upto_region 11 with (fail)
      clear em o0 o1 o2 o3 p0 p1 p2 p3 r0 r1 r2 r3
      generalize (w1.alloc (.cells #[.int .u8 2, .slice none 0 0, .slice none 0 0, .slice none 0 0] 52)).alloc (.cells #[.int .u8 2, .slice none 0 0, .slice none 0 0, .slice none 0 0] 52) = v at H6 H7 HO2 HY2 HZ2 HW2 ⊢
      have hlt7 := H7.out.lt
      generalize hg7 : w1.heap.size + 1 = g7 at H7 hlt7 ⊢
      generalize hg6 : w1.heap.size = g6 at H6 hlt1 hg7 ⊢
      have HK : Hid (∀ w' : World, Ch [g6, g7] v w' → w'.cell? ⟨w.heap.size, 0, none⟩ = some (.int .u8 2) ∧ w'.cell? ⟨w.heap.size, 1, none⟩ = some (.slice (some ⟨b, o, none⟩) keys.length c) ∧ w'.cell? ⟨w.heap.size, 2, none⟩ = some (.slice B 0 d) ∧ w'.cell? ⟨w.heap.size, 3, none⟩ = some (.slice I kids.length ci) ∧ Ch [g6, g7] v w') := fun w' h => by
        obtain ⟨a0, a1, a2, a3, _⟩ := Ob.all4 (HO2.out.ch h (by simp; omega))
        exact ⟨a0, a1, a2, a3, h⟩
      have HRA : Hid (∀ w', Ch [g6, g7] v w' → Rd w' (some ⟨b, o, none⟩) (keys.map sv)) := fun w' h => RK.out.later HW2.out h (by intro g hg; simp at hg; omega)
      have HRB : Hid (∀ w', Ch [g6, g7] v w' → Rd w' I (kids.map iv)) := fun w' h => RN.out.later HW2.out h (by intro g hg; simp at hg; omega)
      have HRX : Hid (∀ w', Ch [g6, g7] v w' → w'.cell? ⟨b, o + m, none⟩ = some (.string x)) := fun w' h => ((HW2.out.ch [g6, g7]).same h |>.bl (by intro g hg; simp at hg; omega)).cellAt HCX.out
      have q1 : Hid (∀ w', Ch [g6, g7] v w' → Calls Try.prog 87 #[.slice (some ⟨b, o, none⟩) m c] w' (TX m (keys.take m) w')) := fun w' h => texts_n m (some ⟨b, o, none⟩) c (keys.take m) w' (by simp; omega) (by omega) (by rw [List.map_take]; exact (HRA.out w' h).take m)
      have q2 : Hid (∀ w', Ch [g6, g7] v w' → Calls Try.prog 88 #[.slice I (m + 1) ci] w' (NX (m + 1) (kids.take (m + 1)) w')) := fun w' h => ints_n (m + 1) I ci (kids.take (m + 1)) w' (by simp; omega) (by omega) (by rw [List.map_take]; exact (HRB.out w' h).take (m + 1))
      have q3 : Hid (∀ w', Ch [g6, g7] v w' → Calls Try.prog 87 #[.slice (cutAddr (some ⟨b, o, none⟩) 1 (m + 1) c) (keys.length - (m + 1)) (c - (m + 1))] w' (TX (keys.length - (m + 1)) (keys.drop (m + 1)) w')) := fun w' h => texts_n (keys.length - (m + 1)) (cutAddr (some ⟨b, o, none⟩) 1 (m + 1) c) (c - (m + 1)) (keys.drop (m + 1)) w' (by simp) (by omega) (by have := (HRA.out w' h).cutTo 1 (m + 1) c (by intro e; simp; omega); simpa [List.map_drop] using this)
      have q4 : Hid (∀ w', Ch [g6, g7] v w' → Calls Try.prog 88 #[.slice (cutAddr I 1 (m + 1) ci) (kids.length - (m + 1)) (ci - (m + 1))] w' (NX (kids.length - (m + 1)) (kids.drop (m + 1)) w')) := fun w' h => ints_n (kids.length - (m + 1)) (cutAddr I 1 (m + 1) ci) (ci - (m + 1)) (kids.drop (m + 1)) w' (by simp) (by omega) (by have := (HRB.out w' h).cutTo 1 (m + 1) ci (by intro e; simp; omega); simpa [List.map_drop] using this)
      have H67 : g6 ≠ g7 ∧ g7 ≠ g6 := ⟨by omega, by omega⟩
      obtain ⟨ne1, ne2⟩ := H67
      go_cut [] (fun wx => Hid (∃ (A5 : Option Addr) (c5 : Nat) (B5 : Option Addr) (d5 : Nat), Ob wx g6 52 #[.int .u8 2, .slice A5 m c5, .slice none 0 0, .slice B5 (m + 1) d5] ∧ App wx v.heap.size 9 1 (.slice A5 m c5) m ((keys.take m).map sv) ∧ App wx v.heap.size 3 1 (.slice B5 (m + 1) d5) (m + 1) ((kids.take (m + 1)).map iv) ∧ Ch [g6] v wx))
      case first =>
        have r1 := cut_h (P := Try.prog) 49 9 1 Try.underlying49 Try.sizeStr (some ⟨b, o, none⟩) keys.length c m (by omega)
        have r2 := cut_h (P := Try.prog) 50 3 1 Try.underlying50 Try.sizeInt I kids.length ci (m + 1) (by omega)
        push_cast at r2
        go_region_held3 (fun w' => w'.cell? ⟨w.heap.size, 0, none⟩ = some (.int .u8 2) ∧ w'.cell? ⟨w.heap.size, 1, none⟩ = some (.slice (some ⟨b, o, none⟩) keys.length c) ∧ w'.cell? ⟨w.heap.size, 2, none⟩ = some (.slice B 0 d) ∧ w'.cell? ⟨w.heap.size, 3, none⟩ = some (.slice I kids.length ci) ∧ Ch [g6, g7] v w')
          (exact HK.out _ (by (focus ((repeat (first | with_reducible assumption | with_reducible exact Ch.refl _ _ | with_reducible refine Ch.drew ?_ | with_reducible refine Ch.drewN ?_ _ | with_reducible refine Ch.alloc ?_ _ | with_reducible refine Ch.cellput ?_ (by simp) _ | (with_reducible refine Ch.same ?_ (by with_reducible assumption)) | (with_reducible refine Ch.step ?_ (by with_reducible assumption)))); done))))
          (first
            | (go_at_call 87; (with_reducible refine (q1.out _ (by (focus ((repeat (first | with_reducible assumption | with_reducible exact Ch.refl _ _ | with_reducible refine Ch.drew ?_ | with_reducible refine Ch.drewN ?_ _ | with_reducible refine Ch.alloc ?_ _ | with_reducible refine Ch.cellput ?_ (by simp) _ | (with_reducible refine Ch.same ?_ (by with_reducible assumption)) | (with_reducible refine Ch.step ?_ (by with_reducible assumption)))); done)))).mono ?_); rintro e w5a ⟨A5, c5, rfl, hA5, hbl5a⟩)
            | (go_at_call 88; (with_reducible refine (q2.out _ (by (focus ((repeat (first | with_reducible assumption | with_reducible exact Ch.refl _ _ | with_reducible refine Ch.drew ?_ | with_reducible refine Ch.drewN ?_ _ | with_reducible refine Ch.alloc ?_ _ | with_reducible refine Ch.cellput ?_ (by simp) _ | (with_reducible refine Ch.same ?_ (by with_reducible assumption)) | (with_reducible refine Ch.step ?_ (by with_reducible assumption)))); done)))).mono ?_); rintro e w6a ⟨B5, d5, rfl, hB5, hbl6a⟩; have hb6a : Bl v w6a := (by (focus ((repeat (first | with_reducible assumption | exact Bl.refl _ | refine Bl.drew ?_ | refine Bl.drewN ?_ _ | refine Bl.alloc ?_ _ | (refine Bl.trans ?_ (by with_reducible assumption)))); done))); obtain ⟨y0, y1, y2, y3, yf0, yf1, yf2, yf3⟩ := Ob.all4 (H6.out.bl hb6a)))
        all_goals
          go_wp2_with fail
          go_meet
          case rel =>
            have hob := H6.out.bl hb6a
            have hp := (hob.set 1 (.slice A5 m c5)).set 3 (.slice B5 (m + 1) d5)
            have hch := (Ch.put w6a g6 1 (.slice A5 m c5)).same (Ch.put _ g6 3 (.slice B5 (m + 1) d5))
            have h56 : Bl w5a w6a := hbl6a
            have s5 : v.heap.size ≤ w5a.heap.size := by have := hbl5a.size; simpa using this
            refine ⟨A5, c5, B5, d5, by simpa using hp, ((hA5.bl h56).ch hch (fun g hg e => by have := hA5.ge g e; simp at hg this; omega)).mono (by simp), (hB5.ch hch (fun g hg e => by have := hB5.ge g e; simp at hg; omega)).mono (by omega), ((hb6a.ch [g6]).same hch)⟩
      case rest =>
        obtain ⟨A5, c5, B5, d5, hob5, hA5, hB5, hcw⟩ := hcut.out
        have HO5 := Lib.hid hob5
        have HA5 := Lib.hid hA5
        have HB5 := Lib.hid hB5
        have H7b := Lib.hid (H7.out.ch hcw (by simp; omega))
        have hcw1 := hcw.mono (M := [g6, g7]) (by simp)
        have HCW := Lib.hid hcw1
        clear hob5 hA5 hB5 hcw hcw1
        go_upto_region 12 with (fail)
        go_cut [] (fun wx => Hid (∃ (A6 : Option Addr) (c6 : Nat) (B6 : Option Addr) (d6 : Nat), Ob wx g6 52 #[.int .u8 2, .slice A5 m c5, .slice none 0 0, .slice B5 (m + 1) d5] ∧ Ob wx g7 52 #[.int .u8 2, .slice A6 (keys.length - (m + 1)) c6, .slice none 0 0, .slice B6 (kids.length - (m + 1)) d6] ∧ App wx v.heap.size 9 1 (.slice A5 m c5) m ((keys.take m).map sv) ∧ App wx v.heap.size 3 1 (.slice B5 (m + 1) d5) (m + 1) ((kids.take (m + 1)).map iv) ∧ App wx v.heap.size 9 1 (.slice A6 (keys.length - (m + 1)) c6) (keys.length - (m + 1)) ((keys.drop (m + 1)).map sv) ∧ App wx v.heap.size 3 1 (.slice B6 (kids.length - (m + 1)) d6) (kids.length - (m + 1)) ((kids.drop (m + 1)).map iv) ∧ Ch [g6, g7] v wx))
        case first =>
          have hcw := HCW.out
          have wsz := HCW.out.size
          have r1 := cut_l (P := Try.prog) 49 9 1 Try.underlying49 Try.sizeStr (some ⟨b, o, none⟩) keys.length c (m + 1) (by omega)
          have r2 := cut_l (P := Try.prog) 50 3 1 Try.underlying50 Try.sizeInt I kids.length ci (m + 1) (by omega)
          push_cast at r1 r2
          go_region_held3 (fun w' => w'.cell? ⟨w.heap.size, 0, none⟩ = some (.int .u8 2) ∧ w'.cell? ⟨w.heap.size, 1, none⟩ = some (.slice (some ⟨b, o, none⟩) keys.length c) ∧ w'.cell? ⟨w.heap.size, 2, none⟩ = some (.slice B 0 d) ∧ w'.cell? ⟨w.heap.size, 3, none⟩ = some (.slice I kids.length ci) ∧ Ch [g6, g7] v w')
            (exact HK.out _ (by (focus ((repeat (first | with_reducible assumption | with_reducible exact Ch.refl _ _ | with_reducible refine Ch.drew ?_ | with_reducible refine Ch.drewN ?_ _ | with_reducible refine Ch.alloc ?_ _ | with_reducible refine Ch.cellput ?_ (by simp) _ | (with_reducible refine Ch.same ?_ (by with_reducible assumption)) | (with_reducible refine Ch.step ?_ (by with_reducible assumption)))); done))))
            (first
              | (go_at_call 87; (with_reducible refine (q3.out _ (by (focus ((repeat (first | with_reducible assumption | with_reducible exact Ch.refl _ _ | with_reducible refine Ch.drew ?_ | with_reducible refine Ch.drewN ?_ _ | with_reducible refine Ch.alloc ?_ _ | with_reducible refine Ch.cellput ?_ (by simp) _ | (with_reducible refine Ch.same ?_ (by with_reducible assumption)) | (with_reducible refine Ch.step ?_ (by with_reducible assumption)))); done)))).mono ?_); rintro e w5b ⟨A6, c6, rfl, hA6, hbl5b⟩)
              | (go_at_call 88; (with_reducible refine (q4.out _ (by (focus ((repeat (first | with_reducible assumption | with_reducible exact Ch.refl _ _ | with_reducible refine Ch.drew ?_ | with_reducible refine Ch.drewN ?_ _ | with_reducible refine Ch.alloc ?_ _ | with_reducible refine Ch.cellput ?_ (by simp) _ | (with_reducible refine Ch.same ?_ (by with_reducible assumption)) | (with_reducible refine Ch.step ?_ (by with_reducible assumption)))); done)))).mono ?_); rintro e w6b ⟨B6, d6, rfl, hB6, hbl6b⟩; have hb6b : Bl wc w6b := (by (focus ((repeat (first | with_reducible assumption | exact Bl.refl _ | refine Bl.drew ?_ | refine Bl.drewN ?_ _ | refine Bl.alloc ?_ _ | (refine Bl.trans ?_ (by with_reducible assumption)))); done))); obtain ⟨y0, y1, y2, y3, yf0, yf1, yf2, yf3⟩ := Ob.all4 (H7b.out.bl hb6b)))
          all_goals
            go_wp2_with fail
            go_meet
            case rel =>
              have hob := H7b.out.bl hb6b
              have hp := (hob.set 1 (.slice A6 (keys.length - (m + 1)) c6)).set 3 (.slice B6 (kids.length - (m + 1)) d6)
              have hch := (Ch.put w6b g7 1 (.slice A6 (keys.length - (m + 1)) c6)).same (Ch.put _ g7 3 (.slice B6 (kids.length - (m + 1)) d6))
              have s5 : wc.heap.size ≤ w5b.heap.size := by have := hbl5b.size; simpa using this
              have key : ∀ {T : TypeId} {v1 : Value} {n bb : Nat} {cs : List Value}, App w6b bb T 1 v1 n cs → v.heap.size ≤ bb → App _ v.heap.size T 1 v1 n cs := fun a hb => (a.ch hch (fun g hg e => by have := a.ge g e; simp at hg; omega)).mono hb
              refine ⟨A6, c6, B6, d6, (HO5.out.bl hb6b).ch hch (by simp; omega), by simpa using hp, key (HA5.out.bl hb6b) (Nat.le_refl _), key (HB5.out.bl hb6b) (Nat.le_refl _), key (hA6.bl hbl6b) (by simp; omega), key hB6 (by omega), ?_⟩
              exact (HCW.out.thenBl hb6b).same (hch.mono (by simp))
        case rest =>
          obtain ⟨A6, c6, B6, d6, hob6, hob7, hA5, hB5, hA6, hB6, hcw⟩ := hcut.out
          have HP6 := Lib.hid hob6
          have HP7 := Lib.hid hob7
          have HC2 := Lib.hid hcw
          have HYc := Lib.hid (HY2.out.ch hcw (by simp; omega))
          have HZc := Lib.hid (HZ2.out.ch hcw (by simp; omega))
          have HQ5 := Lib.hid hA5
          have HQB5 := Lib.hid hB5
          have HQ6 := Lib.hid hA6
          have HQB6 := Lib.hid hB6
          obtain ⟨y0, y1, y2, y3, yf0, yf1, yf2, yf3⟩ := Ob.all4 HYc.out
          obtain ⟨z0, z1, z2, z3, zf0, zf1, zf2, zf3⟩ := Ob.all4 HZc.out
          have HK3 : Hid (∀ w' : World, Ch [w.heap.size + 1, w.heap.size + 1 + 1] wc w' → w'.cell? ⟨w.heap.size, 0, none⟩ = some (.int .u8 2) ∧ w'.cell? ⟨w.heap.size, 1, none⟩ = some (.slice (some ⟨b, o, none⟩) keys.length c) ∧ w'.cell? ⟨w.heap.size, 2, none⟩ = some (.slice B 0 d) ∧ w'.cell? ⟨w.heap.size, 3, none⟩ = some (.slice I kids.length ci) ∧ w'.cell? ⟨b, o + m, none⟩ = some (.string x) ∧ w'.cell? ⟨g6, 0, none⟩ = some (.int .u8 2) ∧ w'.cell? ⟨g6, 1, none⟩ = some (.slice A5 m c5) ∧ w'.cell? ⟨g6, 2, none⟩ = some (.slice none 0 0) ∧ w'.cell? ⟨g6, 3, none⟩ = some (.slice B5 (m + 1) d5) ∧ w'.cell? ⟨g7, 0, none⟩ = some (.int .u8 2) ∧ w'.cell? ⟨g7, 1, none⟩ = some (.slice A6 (keys.length - (m + 1)) c6) ∧ w'.cell? ⟨g7, 2, none⟩ = some (.slice none 0 0) ∧ w'.cell? ⟨g7, 3, none⟩ = some (.slice B6 (kids.length - (m + 1)) d6) ∧ Ch [w.heap.size + 1, w.heap.size + 1 + 1] wc w') := fun w' h => by
            obtain ⟨a0, a1, a2, a3, _⟩ := Ob.all4 ((HO2.out.ch HC2.out (by simp; omega)).ch h (by simp <;> omega))
            obtain ⟨i0, i1, i2, i3, _⟩ := Ob.all4 (HP6.out.ch h (by simp <;> omega))
            obtain ⟨j0, j1, j2, j3, _⟩ := Ob.all4 (HP7.out.ch h (by simp <;> omega))
            have hx : w'.cell? ⟨b, o + m, none⟩ = some (.string x) := (((HW2.out.ch [g6, g7]).same HC2.out |>.bl (by intro g hg; simp at hg; omega)).ch [w.heap.size + 1, w.heap.size + 1 + 1] |>.same h |>.bl (by intro g hg; simp at hg; omega)).cellAt HCX.out
            exact ⟨a0, a1, a2, a3, hx, i0, i1, i2, i3, j0, j1, j2, j3, h⟩
          clear hob6 hob7 hA5 hB5 hA6 hB6 hcw
          go_upto_region 13 with (fail)
          go_region_held3 (fun w' => w'.cell? ⟨w.heap.size, 0, none⟩ = some (.int .u8 2) ∧ w'.cell? ⟨w.heap.size, 1, none⟩ = some (.slice (some ⟨b, o, none⟩) keys.length c) ∧ w'.cell? ⟨w.heap.size, 2, none⟩ = some (.slice B 0 d) ∧ w'.cell? ⟨w.heap.size, 3, none⟩ = some (.slice I kids.length ci) ∧ w'.cell? ⟨b, o + m, none⟩ = some (.string x) ∧ w'.cell? ⟨g6, 0, none⟩ = some (.int .u8 2) ∧ w'.cell? ⟨g6, 1, none⟩ = some (.slice A5 m c5) ∧ w'.cell? ⟨g6, 2, none⟩ = some (.slice none 0 0) ∧ w'.cell? ⟨g6, 3, none⟩ = some (.slice B5 (m + 1) d5) ∧ w'.cell? ⟨g7, 0, none⟩ = some (.int .u8 2) ∧ w'.cell? ⟨g7, 1, none⟩ = some (.slice A6 (keys.length - (m + 1)) c6) ∧ w'.cell? ⟨g7, 2, none⟩ = some (.slice none 0 0) ∧ w'.cell? ⟨g7, 3, none⟩ = some (.slice B6 (kids.length - (m + 1)) d6) ∧ Ch [w.heap.size + 1, w.heap.size + 1 + 1] wc w')
            (exact HK3.out _ (by (focus ((repeat (first | with_reducible assumption | with_reducible exact Ch.refl _ _ | with_reducible refine Ch.drew ?_ | with_reducible refine Ch.drewN ?_ _ | with_reducible refine Ch.alloc ?_ _ | with_reducible refine Ch.cellput ?_ (by simp) _ | (with_reducible refine Ch.same ?_ (by with_reducible assumption)) | (with_reducible refine Ch.step ?_ (by with_reducible assumption)))); done))))
            (first
              | fail)
          all_goals
            go_wp2_with fail
            have hy6 := HYc.out
            have hz6 := HZc.out
            refine bodyPost_ret (v := .tuple #[.agg _, .string x, .agg _, .int .i64 0]) (results_ctct (v := .string x) (v2 := .int .i64 0) rfl _ _ (Ob.bl ((hy6.set4 _ _ _ _).1.ch ((hz6.ch (hy6.set4 _ _ _ _).2 (by simp)).set4 _ _ _ _).2 (by simp)) (Bl.refl _).drew) (Ob.bl ((hz6.ch (hy6.set4 _ _ _ _).2 (by simp)).set4 _ _ _ _).1 (Bl.refl _).drew) rfl rfl rfl rfl Try.underlying52 rfl Try.sizeNode Try.sizeNode) rfl ?_
            unfold RetPart
            rw [HP.out]
            simp only [HX.out]
            have hch : Ch [w.heap.size + 1, w.heap.size + 1 + 1] wc (World.drew (((((((((wc.setCell ⟨w.heap.size + 1, 0, none⟩ (.int .u8 2)).setCell ⟨w.heap.size + 1, 1, none⟩ (.slice A5 m c5)).setCell ⟨w.heap.size + 1, 2, none⟩ (.slice none 0 0)).setCell ⟨w.heap.size + 1, 3, none⟩ (.slice B5 (m + 1) d5)).setCell ⟨w.heap.size + 1 + 1, 0, none⟩ (.int .u8 2)).setCell ⟨w.heap.size + 1 + 1, 1, none⟩ (.slice A6 (keys.length - (m + 1)) c6)).setCell ⟨w.heap.size + 1 + 1, 2, none⟩ (.slice none 0 0)).setCell ⟨w.heap.size + 1 + 1, 3, none⟩ (.slice B6 (kids.length - (m + 1)) d6)))) := (by (focus ((repeat (first | with_reducible assumption | with_reducible exact Ch.refl _ _ | with_reducible refine Ch.drew ?_ | with_reducible refine Ch.drewN ?_ _ | with_reducible refine Ch.alloc ?_ _ | with_reducible refine Ch.cellput ?_ (by simp) _ | (with_reducible refine Ch.same ?_ (by with_reducible assumption)) | (with_reducible refine Ch.step ?_ (by with_reducible assumption)))); done)))
            have key : ∀ {T : TypeId} {n : Nat} {cs : List Value} {A' : Option Addr} {c' : Nat}, App wc v.heap.size T 1 (.slice A' n c') n cs → Rd _ A' cs := fun a => (App.rd (a.ch hch (fun g hg e => by have := a.ge g e; simp at hg; omega))).1
            have l1 : (keys.take m).length = m := by simp; omega
            have l2 : (kids.take (m + 1)).length = m + 1 := by simp; omega
            have l3 : (keys.drop (m + 1)).length = keys.length - (m + 1) := by simp
            have l4 : (kids.drop (m + 1)).length = kids.length - (m + 1) := by simp
            refine ⟨_, _, rfl, ⟨A5, c5, none, 0, B5, d5, by simp only [l1, l2, List.length_nil], key HQ5.out, Rd.nil _ _, key HQB5.out⟩, ⟨A6, c6, none, 0, B6, d6, by simp only [l3, l4, List.length_nil], key HQ6.out, Rd.nil _ _, key HQB6.out⟩, ?_⟩
            exact (((HW2.out.ch [g6, g7]).same HC2.out |>.bl (by intro g hg; simp at hg; omega)).ch [w.heap.size + 1, w.heap.size + 1 + 1] |>.same hch).bl (by intro g hg; simp at hg; omega)
end Go.Proofs.Ytedmamchfgkkfaa
