/- Texts of the claim NodeMaps, part 5: NodeS, AnsA, AnsB, NodeV, NodeJS, SepA, NodeW. -/
import Derived.Test.YtedmamchfgkkfaaGNodeMaps4
import Derived.Test.YtedmamchfgkkfaaGNodeMaps2
import Derived.Test.YtedmamchfgkkfaaGNodeMaps3
import Derived.Lib.LazyBuf
/- The reference of layer 18 (node) walked: Part. -/
set_option linter.unusedVariables false
set_option linter.unusedSimpArgs false
namespace Go.Proofs.Ytedmamchfgkkfaa
open Go.RowKit
set_option maxRecDepth 100000
set_option maxHeartbeats 8000000

/-- A list of n elements of the call's own. -/
def TX (n : Nat) (xs : List ByteArray) (w : World) (e : Ending) (w' : World) : Prop := ∃ A c, e = .returned (.slice A n c) ∧ App w' w.heap.size 9 1 (.slice A n c) n (xs.map sv) ∧ Bl w w'
def NX (n : Nat) (xs : List Int) (w : World) (e : Ending) (w' : World) : Prop := ∃ A c, e = .returned (.slice A n c) ∧ App w' w.heap.size 3 1 (.slice A n c) n (xs.map iv) ∧ Bl w w'
theorem texts_n (n : Nat) (A : Option Addr) (c : Nat) (xs : List ByteArray) (w : World) (hn : xs.length = n) (hl : n * 16 ≤ 140737488355328) (hr : Rd w A (xs.map sv)) : Calls Try.prog 87 #[.slice A n c] w (TX n xs w) := by
  subst hn
  refine (ref_texts A c xs w hl hr).mono ?_
  rintro e w' ⟨A', c', h1, _, h2, h3⟩
  exact ⟨A', c', h1, h2, h3⟩
theorem ints_n (n : Nat) (A : Option Addr) (c : Nat) (xs : List Int) (w : World) (hn : xs.length = n) (hl : n * 8 ≤ 140737488355328) (hr : Rd w A (xs.map iv)) : Calls Try.prog 88 #[.slice A n c] w (NX n xs w) := by
  subst hn
  refine (ref_copyInts A c xs w hl hr).mono ?_
  rintro e w' ⟨A', c', h1, _, h2, h3⟩
  exact ⟨A', c', h1, h2, h3⟩
theorem two_setup (w : World) (k : Int) :
    Ob ((w.alloc (.cells #[.int .u8 k, .slice none 0 0, .slice none 0 0, .slice none 0 0] 52)).alloc (.cells #[.int .u8 k, .slice none 0 0, .slice none 0 0, .slice none 0 0] 52)) w.heap.size 52 #[.int .u8 k, .slice none 0 0, .slice none 0 0, .slice none 0 0] ∧
    Ob ((w.alloc (.cells #[.int .u8 k, .slice none 0 0, .slice none 0 0, .slice none 0 0] 52)).alloc (.cells #[.int .u8 k, .slice none 0 0, .slice none 0 0, .slice none 0 0] 52)) (w.heap.size + 1) 52 #[.int .u8 k, .slice none 0 0, .slice none 0 0, .slice none 0 0] := by
  refine ⟨?_, ?_⟩
  all_goals simp only [Ob, heap_alloc_at, heap_alloc_size, if_true] <;> (repeat' split) <;> first | rfl | omega
theorem ref_nodePart (k : Int) (A B I : Option Addr) (keys vals : List ByteArray) (kids : List Int) (c d ci : Nat) (w : World) (hk : keys.length * 16 ≤ 140737488355328) (hv : vals.length * 16 ≤ 140737488355328) (hn : kids.length * 8 ≤ 140737488355328) (hkc : keys.length ≤ c) (hvd : vals.length ≤ d) (hic : kids.length ≤ ci)
    (rk : Rd w A (keys.map sv)) (rv : Rd w B (vals.map sv)) (rn : Rd w I (kids.map iv)) :
    Calls Try.prog 48 #[nodeV k A keys.length c B vals.length d I kids.length ci] w (RetPart (nodePart k keys vals kids) w) := by
  have RK := Lib.hid rk
  have RV := Lib.hid rv
  have RN := Lib.hid rn
  obtain ⟨o1, o2, o3⟩ := part_setup w #[.int .u8 k, .slice A keys.length c, .slice B vals.length d, .slice I kids.length ci]
  have HO := Lib.hid o1
  have HY := Lib.hid o2
  have HZ := Lib.hid o3
  have HW := Lib.hid ((((Bl.refl w).alloc (.cells #[.int .u8 k, .slice A keys.length c, .slice B vals.length d, .slice I kids.length ci] 52)).alloc (.cells #[.int .u8 0, .slice none 0 0, .slice none 0 0, .slice none 0 0] 52)).alloc (.cells #[.int .u8 0, .slice none 0 0, .slice none 0 0, .slice none 0 0] 52))
  have hwide := ref_nodeWide k A B I keys vals kids c d ci
  clear rk rv rn o1 o2 o3
  go_enter Try.func48, Try.ntmps48
  go_wp2_with (go_at_call 35; fail_if_success skip)
  generalize (((w.alloc (.cells #[.int .u8 k, .slice A keys.length c, .slice B vals.length d, .slice I kids.length ci] 52)).alloc (.cells #[.int .u8 0, .slice none 0 0, .slice none 0 0, .slice none 0 0] 52)).alloc (.cells #[.int .u8 0, .slice none 0 0, .slice none 0 0, .slice none 0 0] 52)) = u at HO HY HZ HW ⊢
  refine (hwide u (by omega) (by omega) (by omega) (RK.out.bl HW.out) (RV.out.bl HW.out) (RN.out.bl HW.out)).mono ?_
  clear hwide
  rintro e w1 ⟨rfl, hbl1⟩
  have HO1 := Lib.hid (HO.out.bl hbl1)
  have HY1 := Lib.hid (HY.out.bl hbl1)
  have HZ1 := Lib.hid (HZ.out.bl hbl1)
  have HW1 := Lib.hid (HW.out.trans hbl1)
  obtain ⟨o0, o1, o2, o3, _⟩ := Ob.all4 HO1.out
  obtain ⟨y0, y1, y2, y3, yf0, yf1, yf2, yf3⟩ := Ob.all4 HY1.out
  obtain ⟨z0, z1, z2, z3, zf0, zf1, zf2, zf3⟩ := Ob.all4 HZ1.out
  clear hbl1 HO HY HZ HW
  by_cases hbad : nodeRight k keys vals kids 12 13 = false ∨ keys.length ≤ 6
  · have HP := Lib.hid (show nodePart k keys vals kids = ⟨ndNil, ⟨#[]⟩, ndNil, 2⟩ by unfold nodePart; rw [if_pos hbad])
    cases hr : nodeRight k keys vals kids 12 13
    · clear hbad
      go_wp2_with fail
      refine bodyPost_ret (v := .tuple #[.agg #[.int .u8 0, .slice none 0 0, .slice none 0 0, .slice none 0 0], .string ⟨#[]⟩, .agg #[.int .u8 0, .slice none 0 0, .slice none 0 0, .slice none 0 0], .int .i64 2]) (results_ctct (v := .string ⟨#[]⟩) (v2 := .int .i64 2) rfl _ _ (((HY1.out.set4 _ _ _ _).1).ch (HZ1.out.ch (HY1.out.set4 (.int .u8 0) (.slice none 0 0) (.slice none 0 0) (.slice none 0 0)).2 (by simp) |>.set4 (.int .u8 0) (.slice none 0 0) (.slice none 0 0) (.slice none 0 0)).2 (by simp)) ((HZ1.out.ch (HY1.out.set4 (.int .u8 0) (.slice none 0 0) (.slice none 0 0) (.slice none 0 0)).2 (by simp)).set4 _ _ _ _).1 rfl rfl rfl rfl Try.underlying52 rfl Try.sizeNode Try.sizeNode) rfl ?_
      unfold RetPart
      rw [HP.out]
      exact ⟨_, _, rfl, RdNd.nil _, RdNd.nil _, (((HW1.out.ch [w.heap.size + 1, w.heap.size + 1 + 1]).same ((HY1.out.set4 _ _ _ _).2.mono (by simp))).same ((HZ1.out.ch (HY1.out.set4 (.int .u8 0) (.slice none 0 0) (.slice none 0 0) (.slice none 0 0)).2 (by simp)).set4 _ _ _ _ |>.2.mono (by simp))).bl (by intro g hg; simp at hg; omega)⟩
    · have h6 : keys.length ≤ 6 := by
        rcases hbad with h | h
        · rw [hr] at h; cases h
        · exact h
      clear hbad
      go_wp2_with fail
      refine bodyPost_ret (v := .tuple #[.agg #[.int .u8 0, .slice none 0 0, .slice none 0 0, .slice none 0 0], .string ⟨#[]⟩, .agg #[.int .u8 0, .slice none 0 0, .slice none 0 0, .slice none 0 0], .int .i64 2]) (results_ctct (v := .string ⟨#[]⟩) (v2 := .int .i64 2) rfl _ _ (((HY1.out.set4 _ _ _ _).1).ch (HZ1.out.ch (HY1.out.set4 (.int .u8 0) (.slice none 0 0) (.slice none 0 0) (.slice none 0 0)).2 (by simp) |>.set4 (.int .u8 0) (.slice none 0 0) (.slice none 0 0) (.slice none 0 0)).2 (by simp)) ((HZ1.out.ch (HY1.out.set4 (.int .u8 0) (.slice none 0 0) (.slice none 0 0) (.slice none 0 0)).2 (by simp)).set4 _ _ _ _).1 rfl rfl rfl rfl Try.underlying52 rfl Try.sizeNode Try.sizeNode) rfl ?_
      unfold RetPart
      rw [HP.out]
      exact ⟨_, _, rfl, RdNd.nil _, RdNd.nil _, (((HW1.out.ch [w.heap.size + 1, w.heap.size + 1 + 1]).same ((HY1.out.set4 _ _ _ _).2.mono (by simp))).same ((HZ1.out.ch (HY1.out.set4 (.int .u8 0) (.slice none 0 0) (.slice none 0 0) (.slice none 0 0)).2 (by simp)).set4 _ _ _ _ |>.2.mono (by simp))).bl (by intro g hg; simp at hg; omega)⟩
  · have hr : nodeRight k keys vals kids 12 13 = true := by
      cases hr : nodeRight k keys vals kids 12 13
      · exact absurd (.inl hr) hbad
      · rfl
    have h6 : 6 < keys.length := by omega
    rw [hr]
    obtain ⟨hko, hcase⟩ := nodeRight_or hr
    rcases hcase with ⟨hk1, hk12, hvl, hkn, hvo⟩ | ⟨hk2, hk1, hk13, hkl, hvn, hno⟩
    · subst hk1
      subst hkn
      obtain ⟨m, hm⟩ : ∃ m : Nat, m = keys.length - keys.length / 2 := ⟨_, rfl⟩
      have HP := Lib.hid (show nodePart 1 keys vals [] = ⟨⟨1, keys.take m, vals.take m, []⟩, keys.getD m .empty, ⟨1, keys.drop m, vals.drop m, []⟩, 0⟩ by unfold nodePart; rw [if_neg hbad, if_pos rfl, ← hm])
      have HVL := Lib.hid hvl
      have hvm : m ≤ vals.length := by omega
      have em : ((keys.length : Int) - (keys.length : Int) / 2) = (m : Int) := by omega
      have hmk : m < keys.length := by omega
      obtain ⟨x, hx⟩ := get_some keys m hmk
      obtain ⟨b, o, rfl, hcx⟩ := RK.out.get hx
      simp only [sv] at hcx
      have HCX := Lib.hid hcx
      have HX := Lib.hid (getD_of hx ByteArray.empty)
      clear hbad hr hko hvo hvl hm
      clear hx hcx
      simp only [List.length_nil] at HO1 o2 o3 ⊢
      obtain ⟨t6, t7⟩ := two_setup w1 1
      have H6 := Lib.hid t6
      have H7 := Lib.hid t7
      have hbv := ((Bl.refl w1).alloc (.cells #[.int .u8 1, .slice none 0 0, .slice none 0 0, .slice none 0 0] 52)).alloc (.cells #[.int .u8 1, .slice none 0 0, .slice none 0 0, .slice none 0 0] 52)
      have HO2 := Lib.hid (HO1.out.bl hbv)
      have HY2 := Lib.hid (HY1.out.bl hbv)
      have HZ2 := Lib.hid (HZ1.out.bl hbv)
      have HW2 := Lib.hid (HW1.out.trans hbv)
      have hlt1 := HZ1.out.lt
      obtain ⟨p0, p1, p2, p3, _⟩ := Ob.all4 (HO1.out.bl ((Bl.refl w1).alloc (.cells #[.int .u8 1, .slice none 0 0, .slice none 0 0, .slice none 0 0] 52)))
      obtain ⟨r0, r1, r2, r3, _⟩ := Ob.all4 HO2.out
      clear t6 t7 hbv y0 y1 y2 y3 yf0 yf1 yf2 yf3 z0 z1 z2 z3 zf0 zf1 zf2 zf3
      go_upto_region 8 with (fail)
      clear em o0 o1 o2 o3 p0 p1 p2 p3 r0 r1 r2 r3
      generalize (w1.alloc (.cells #[.int .u8 1, .slice none 0 0, .slice none 0 0, .slice none 0 0] 52)).alloc (.cells #[.int .u8 1, .slice none 0 0, .slice none 0 0, .slice none 0 0] 52) = v at H6 H7 HO2 HY2 HZ2 HW2 ⊢
      have hlt7 := H7.out.lt
      generalize hg7 : w1.heap.size + 1 = g7 at H7 hlt7 ⊢
      generalize hg6 : w1.heap.size = g6 at H6 hlt1 hg7 ⊢
      have HK : Hid (∀ w' : World, Ch [g6, g7] v w' → w'.cell? ⟨w.heap.size, 0, none⟩ = some (.int .u8 1) ∧ w'.cell? ⟨w.heap.size, 1, none⟩ = some (.slice (some ⟨b, o, none⟩) keys.length c) ∧ w'.cell? ⟨w.heap.size, 2, none⟩ = some (.slice B vals.length d) ∧ w'.cell? ⟨w.heap.size, 3, none⟩ = some (.slice I 0 ci) ∧ Ch [g6, g7] v w') := fun w' h => by
        obtain ⟨a0, a1, a2, a3, _⟩ := Ob.all4 (HO2.out.ch h (by simp; omega))
        exact ⟨a0, a1, a2, a3, h⟩
      have HRA : Hid (∀ w', Ch [g6, g7] v w' → Rd w' (some ⟨b, o, none⟩) (keys.map sv)) := fun w' h => RK.out.later HW2.out h (by intro g hg; simp at hg; omega)
      have HRB : Hid (∀ w', Ch [g6, g7] v w' → Rd w' B (vals.map sv)) := fun w' h => RV.out.later HW2.out h (by intro g hg; simp at hg; omega)
      have HRX : Hid (∀ w', Ch [g6, g7] v w' → w'.cell? ⟨b, o + m, none⟩ = some (.string x)) := fun w' h => ((HW2.out.ch [g6, g7]).same h |>.bl (by intro g hg; simp at hg; omega)).cellAt HCX.out
      have q1 : Hid (∀ w', Ch [g6, g7] v w' → Calls Try.prog 87 #[.slice (some ⟨b, o, none⟩) m c] w' (TX m (keys.take m) w')) := fun w' h => texts_n m (some ⟨b, o, none⟩) c (keys.take m) w' (by simp; omega) (by omega) (by rw [List.map_take]; exact (HRA.out w' h).take m)
      have q2 : Hid (∀ w', Ch [g6, g7] v w' → Calls Try.prog 87 #[.slice B m d] w' (TX m (vals.take m) w')) := fun w' h => texts_n m B d (vals.take m) w' (by simp; omega) (by omega) (by rw [List.map_take]; exact (HRB.out w' h).take m)
      have q3 : Hid (∀ w', Ch [g6, g7] v w' → Calls Try.prog 87 #[.slice (cutAddr (some ⟨b, o, none⟩) 1 m c) (keys.length - m) (c - m)] w' (TX (keys.length - m) (keys.drop m) w')) := fun w' h => texts_n (keys.length - m) (cutAddr (some ⟨b, o, none⟩) 1 m c) (c - m) (keys.drop m) w' (by simp) (by omega) (by have := (HRA.out w' h).cutTo 1 m c (by intro e; simp; omega); simpa [List.map_drop] using this)
      have q4 : Hid (∀ w', Ch [g6, g7] v w' → Calls Try.prog 87 #[.slice (cutAddr B 1 m d) (vals.length - m) (d - m)] w' (TX (vals.length - m) (vals.drop m) w')) := fun w' h => texts_n (vals.length - m) (cutAddr B 1 m d) (d - m) (vals.drop m) w' (by simp) (by omega) (by have := (HRB.out w' h).cutTo 1 m d (by intro e; simp; omega); simpa [List.map_drop] using this)
      have H67 : g6 ≠ g7 ∧ g7 ≠ g6 := ⟨by omega, by omega⟩
      obtain ⟨ne1, ne2⟩ := H67
      go_cut [] (fun wx => Hid (∃ (A5 : Option Addr) (c5 : Nat) (B5 : Option Addr) (d5 : Nat), Ob wx g6 52 #[.int .u8 1, .slice A5 m c5, .slice B5 m d5, .slice none 0 0] ∧ App wx v.heap.size 9 1 (.slice A5 m c5) m ((keys.take m).map sv) ∧ App wx v.heap.size 9 1 (.slice B5 m d5) m ((vals.take m).map sv) ∧ Ch [g6] v wx))
      case first =>
        have r1 := cut_h (P := Try.prog) 49 9 1 Try.underlying49 Try.sizeStr (some ⟨b, o, none⟩) keys.length c m (by omega)
        have r2 := cut_h (P := Try.prog) 49 9 1 Try.underlying49 Try.sizeStr B vals.length d m (by omega)
        go_region_held3 (fun w' => w'.cell? ⟨w.heap.size, 0, none⟩ = some (.int .u8 1) ∧ w'.cell? ⟨w.heap.size, 1, none⟩ = some (.slice (some ⟨b, o, none⟩) keys.length c) ∧ w'.cell? ⟨w.heap.size, 2, none⟩ = some (.slice B vals.length d) ∧ w'.cell? ⟨w.heap.size, 3, none⟩ = some (.slice I 0 ci) ∧ Ch [g6, g7] v w')
          (exact HK.out _ (by (focus ((repeat (first | with_reducible assumption | with_reducible exact Ch.refl _ _ | with_reducible refine Ch.drew ?_ | with_reducible refine Ch.drewN ?_ _ | with_reducible refine Ch.alloc ?_ _ | with_reducible refine Ch.cellput ?_ (by simp) _ | (with_reducible refine Ch.same ?_ (by with_reducible assumption)) | (with_reducible refine Ch.step ?_ (by with_reducible assumption)))); done))))
          (first
            | (go_at_call 87; (with_reducible refine (q1.out _ (by (focus ((repeat (first | with_reducible assumption | with_reducible exact Ch.refl _ _ | with_reducible refine Ch.drew ?_ | with_reducible refine Ch.drewN ?_ _ | with_reducible refine Ch.alloc ?_ _ | with_reducible refine Ch.cellput ?_ (by simp) _ | (with_reducible refine Ch.same ?_ (by with_reducible assumption)) | (with_reducible refine Ch.step ?_ (by with_reducible assumption)))); done)))).mono ?_); rintro e w5a ⟨A5, c5, rfl, hA5, hbl5a⟩)
            | (go_at_call 87; (with_reducible refine (q2.out _ (by (focus ((repeat (first | with_reducible assumption | with_reducible exact Ch.refl _ _ | with_reducible refine Ch.drew ?_ | with_reducible refine Ch.drewN ?_ _ | with_reducible refine Ch.alloc ?_ _ | with_reducible refine Ch.cellput ?_ (by simp) _ | (with_reducible refine Ch.same ?_ (by with_reducible assumption)) | (with_reducible refine Ch.step ?_ (by with_reducible assumption)))); done)))).mono ?_); rintro e w6a ⟨B5, d5, rfl, hB5, hbl6a⟩; have hb6a : Bl v w6a := (by (focus ((repeat (first | with_reducible assumption | exact Bl.refl _ | refine Bl.drew ?_ | refine Bl.drewN ?_ _ | refine Bl.alloc ?_ _ | (refine Bl.trans ?_ (by with_reducible assumption)))); done))); obtain ⟨y0, y1, y2, y3, yf0, yf1, yf2, yf3⟩ := Ob.all4 (H6.out.bl hb6a)))
        all_goals
          go_wp2_with fail
          go_meet
          case rel =>
            have hob := H6.out.bl hb6a
            have hp := (hob.set 1 (.slice A5 m c5)).set 2 (.slice B5 m d5)
            have hch := (Ch.put w6a g6 1 (.slice A5 m c5)).same (Ch.put _ g6 2 (.slice B5 m d5))
            have h56 : Bl w5a w6a := hbl6a
            have s5 : v.heap.size ≤ w5a.heap.size := by have := hbl5a.size; simpa using this
            refine ⟨A5, c5, B5, d5, by simpa using hp, ((hA5.bl h56).ch hch (fun g hg e => by have := hA5.ge g e; simp at hg this; omega)).mono (by simp), (hB5.ch hch (fun g hg e => by have := hB5.ge g e; simp at hg; omega)).mono (by omega), ((hb6a.ch [g6]).same hch)⟩
      case rest =>
        obtain ⟨A5, c5, B5, d5, hob5, hA5, hB5, hcw⟩ := hcut.out
        have HO5 := Lib.hid hob5
        have HA5 := Lib.hid hA5
        have HB5 := Lib.hid hB5
        have H7b := Lib.hid (H7.out.ch hcw (by simp; omega))
        have hcw1 := hcw.mono (M := [g6, g7]) (by simp)
        have HCW := Lib.hid hcw1
        clear hob5 hA5 hB5 hcw hcw1
        go_upto_region 9 with (fail)
        go_cut [] (fun wx => Hid (∃ (A6 : Option Addr) (c6 : Nat) (B6 : Option Addr) (d6 : Nat), Ob wx g6 52 #[.int .u8 1, .slice A5 m c5, .slice B5 m d5, .slice none 0 0] ∧ Ob wx g7 52 #[.int .u8 1, .slice A6 (keys.length - m) c6, .slice B6 (vals.length - m) d6, .slice none 0 0] ∧ App wx v.heap.size 9 1 (.slice A5 m c5) m ((keys.take m).map sv) ∧ App wx v.heap.size 9 1 (.slice B5 m d5) m ((vals.take m).map sv) ∧ App wx v.heap.size 9 1 (.slice A6 (keys.length - m) c6) (keys.length - m) ((keys.drop m).map sv) ∧ App wx v.heap.size 9 1 (.slice B6 (vals.length - m) d6) (vals.length - m) ((vals.drop m).map sv) ∧ Ch [g6, g7] v wx))
        case first =>
          have hcw := HCW.out
          have wsz := HCW.out.size
          have r1 := cut_l (P := Try.prog) 49 9 1 Try.underlying49 Try.sizeStr (some ⟨b, o, none⟩) keys.length c m (by omega)
          have r2 := cut_l (P := Try.prog) 49 9 1 Try.underlying49 Try.sizeStr B vals.length d m (by omega)
          go_region_held3 (fun w' => w'.cell? ⟨w.heap.size, 0, none⟩ = some (.int .u8 1) ∧ w'.cell? ⟨w.heap.size, 1, none⟩ = some (.slice (some ⟨b, o, none⟩) keys.length c) ∧ w'.cell? ⟨w.heap.size, 2, none⟩ = some (.slice B vals.length d) ∧ w'.cell? ⟨w.heap.size, 3, none⟩ = some (.slice I 0 ci) ∧ Ch [g6, g7] v w')
            (exact HK.out _ (by (focus ((repeat (first | with_reducible assumption | with_reducible exact Ch.refl _ _ | with_reducible refine Ch.drew ?_ | with_reducible refine Ch.drewN ?_ _ | with_reducible refine Ch.alloc ?_ _ | with_reducible refine Ch.cellput ?_ (by simp) _ | (with_reducible refine Ch.same ?_ (by with_reducible assumption)) | (with_reducible refine Ch.step ?_ (by with_reducible assumption)))); done))))
            (first
              | (go_at_call 87; (with_reducible refine (q3.out _ (by (focus ((repeat (first | with_reducible assumption | with_reducible exact Ch.refl _ _ | with_reducible refine Ch.drew ?_ | with_reducible refine Ch.drewN ?_ _ | with_reducible refine Ch.alloc ?_ _ | with_reducible refine Ch.cellput ?_ (by simp) _ | (with_reducible refine Ch.same ?_ (by with_reducible assumption)) | (with_reducible refine Ch.step ?_ (by with_reducible assumption)))); done)))).mono ?_); rintro e w5b ⟨A6, c6, rfl, hA6, hbl5b⟩)
              | (go_at_call 87; (with_reducible refine (q4.out _ (by (focus ((repeat (first | with_reducible assumption | with_reducible exact Ch.refl _ _ | with_reducible refine Ch.drew ?_ | with_reducible refine Ch.drewN ?_ _ | with_reducible refine Ch.alloc ?_ _ | with_reducible refine Ch.cellput ?_ (by simp) _ | (with_reducible refine Ch.same ?_ (by with_reducible assumption)) | (with_reducible refine Ch.step ?_ (by with_reducible assumption)))); done)))).mono ?_); rintro e w6b ⟨B6, d6, rfl, hB6, hbl6b⟩; have hb6b : Bl wc w6b := (by (focus ((repeat (first | with_reducible assumption | exact Bl.refl _ | refine Bl.drew ?_ | refine Bl.drewN ?_ _ | refine Bl.alloc ?_ _ | (refine Bl.trans ?_ (by with_reducible assumption)))); done))); obtain ⟨y0, y1, y2, y3, yf0, yf1, yf2, yf3⟩ := Ob.all4 (H7b.out.bl hb6b)))
          all_goals
            go_wp2_with fail
            go_meet
            case rel =>
              have hob := H7b.out.bl hb6b
              have hp := (hob.set 1 (.slice A6 (keys.length - m) c6)).set 2 (.slice B6 (vals.length - m) d6)
              have hch := (Ch.put w6b g7 1 (.slice A6 (keys.length - m) c6)).same (Ch.put _ g7 2 (.slice B6 (vals.length - m) d6))
              have s5 : wc.heap.size ≤ w5b.heap.size := by have := hbl5b.size; simpa using this
              have key : ∀ {T : TypeId} {v1 : Value} {n bb : Nat} {cs : List Value}, App w6b bb T 1 v1 n cs → v.heap.size ≤ bb → App _ v.heap.size T 1 v1 n cs := fun a hb => (a.ch hch (fun g hg e => by have := a.ge g e; simp at hg; omega)).mono hb
              refine ⟨A6, c6, B6, d6, (HO5.out.bl hb6b).ch hch (by simp; omega), by simpa using hp, key (HA5.out.bl hb6b) (Nat.le_refl _), key (HB5.out.bl hb6b) (Nat.le_refl _), key (hA6.bl hbl6b) (by simp; omega), key hB6 (by omega), ?_⟩
              exact (HCW.out.thenBl hb6b).same (hch.mono (by simp))
        case rest =>
          obtain ⟨A6, c6, B6, d6, hob6, hob7, hA5, hB5, hA6, hB6, hcw⟩ := hcut.out
          have HP6 := Lib.hid hob6
          have HP7 := Lib.hid hob7
          have HC2 := Lib.hid hcw
          have HYc := Lib.hid (HY2.out.ch hcw (by simp; omega))
          have HZc := Lib.hid (HZ2.out.ch hcw (by simp; omega))
          have HQ5 := Lib.hid hA5
          have HQB5 := Lib.hid hB5
          have HQ6 := Lib.hid hA6
          have HQB6 := Lib.hid hB6
          obtain ⟨y0, y1, y2, y3, yf0, yf1, yf2, yf3⟩ := Ob.all4 HYc.out
          obtain ⟨z0, z1, z2, z3, zf0, zf1, zf2, zf3⟩ := Ob.all4 HZc.out
          have HK3 : Hid (∀ w' : World, Ch [w.heap.size + 1, w.heap.size + 1 + 1] wc w' → w'.cell? ⟨w.heap.size, 0, none⟩ = some (.int .u8 1) ∧ w'.cell? ⟨w.heap.size, 1, none⟩ = some (.slice (some ⟨b, o, none⟩) keys.length c) ∧ w'.cell? ⟨w.heap.size, 2, none⟩ = some (.slice B vals.length d) ∧ w'.cell? ⟨w.heap.size, 3, none⟩ = some (.slice I 0 ci) ∧ w'.cell? ⟨b, o + m, none⟩ = some (.string x) ∧ w'.cell? ⟨g6, 0, none⟩ = some (.int .u8 1) ∧ w'.cell? ⟨g6, 1, none⟩ = some (.slice A5 m c5) ∧ w'.cell? ⟨g6, 2, none⟩ = some (.slice B5 m d5) ∧ w'.cell? ⟨g6, 3, none⟩ = some (.slice none 0 0) ∧ w'.cell? ⟨g7, 0, none⟩ = some (.int .u8 1) ∧ w'.cell? ⟨g7, 1, none⟩ = some (.slice A6 (keys.length - m) c6) ∧ w'.cell? ⟨g7, 2, none⟩ = some (.slice B6 (vals.length - m) d6) ∧ w'.cell? ⟨g7, 3, none⟩ = some (.slice none 0 0) ∧ Ch [w.heap.size + 1, w.heap.size + 1 + 1] wc w') := fun w' h => by
            obtain ⟨a0, a1, a2, a3, _⟩ := Ob.all4 ((HO2.out.ch HC2.out (by simp; omega)).ch h (by simp <;> omega))
            obtain ⟨i0, i1, i2, i3, _⟩ := Ob.all4 (HP6.out.ch h (by simp <;> omega))
            obtain ⟨j0, j1, j2, j3, _⟩ := Ob.all4 (HP7.out.ch h (by simp <;> omega))
            have hx : w'.cell? ⟨b, o + m, none⟩ = some (.string x) := (((HW2.out.ch [g6, g7]).same HC2.out |>.bl (by intro g hg; simp at hg; omega)).ch [w.heap.size + 1, w.heap.size + 1 + 1] |>.same h |>.bl (by intro g hg; simp at hg; omega)).cellAt HCX.out
            exact ⟨a0, a1, a2, a3, hx, i0, i1, i2, i3, j0, j1, j2, j3, h⟩
          clear hob6 hob7 hA5 hB5 hA6 hB6 hcw
          go_upto_region 10 with (fail)
          go_region_held3 (fun w' => w'.cell? ⟨w.heap.size, 0, none⟩ = some (.int .u8 1) ∧ w'.cell? ⟨w.heap.size, 1, none⟩ = some (.slice (some ⟨b, o, none⟩) keys.length c) ∧ w'.cell? ⟨w.heap.size, 2, none⟩ = some (.slice B vals.length d) ∧ w'.cell? ⟨w.heap.size, 3, none⟩ = some (.slice I 0 ci) ∧ w'.cell? ⟨b, o + m, none⟩ = some (.string x) ∧ w'.cell? ⟨g6, 0, none⟩ = some (.int .u8 1) ∧ w'.cell? ⟨g6, 1, none⟩ = some (.slice A5 m c5) ∧ w'.cell? ⟨g6, 2, none⟩ = some (.slice B5 m d5) ∧ w'.cell? ⟨g6, 3, none⟩ = some (.slice none 0 0) ∧ w'.cell? ⟨g7, 0, none⟩ = some (.int .u8 1) ∧ w'.cell? ⟨g7, 1, none⟩ = some (.slice A6 (keys.length - m) c6) ∧ w'.cell? ⟨g7, 2, none⟩ = some (.slice B6 (vals.length - m) d6) ∧ w'.cell? ⟨g7, 3, none⟩ = some (.slice none 0 0) ∧ Ch [w.heap.size + 1, w.heap.size + 1 + 1] wc w')
            (exact HK3.out _ (by (focus ((repeat (first | with_reducible assumption | with_reducible exact Ch.refl _ _ | with_reducible refine Ch.drew ?_ | with_reducible refine Ch.drewN ?_ _ | with_reducible refine Ch.alloc ?_ _ | with_reducible refine Ch.cellput ?_ (by simp) _ | (with_reducible refine Ch.same ?_ (by with_reducible assumption)) | (with_reducible refine Ch.step ?_ (by with_reducible assumption)))); done))))
            (first
              | fail)
          all_goals
            go_wp2_with fail
            have hy6 := HYc.out
            have hz6 := HZc.out
            refine bodyPost_ret (v := .tuple #[.agg _, .string x, .agg _, .int .i64 0]) (results_ctct (v := .string x) (v2 := .int .i64 0) rfl _ _ (Ob.bl ((hy6.set4 _ _ _ _).1.ch ((hz6.ch (hy6.set4 _ _ _ _).2 (by simp)).set4 _ _ _ _).2 (by simp)) (Bl.refl _).drew) (Ob.bl ((hz6.ch (hy6.set4 _ _ _ _).2 (by simp)).set4 _ _ _ _).1 (Bl.refl _).drew) rfl rfl rfl rfl Try.underlying52 rfl Try.sizeNode Try.sizeNode) rfl ?_
            unfold RetPart
            rw [HP.out]
            simp only [HX.out]
            have hch : Ch [w.heap.size + 1, w.heap.size + 1 + 1] wc (World.drew (((((((((wc.setCell ⟨w.heap.size + 1, 0, none⟩ (.int .u8 1)).setCell ⟨w.heap.size + 1, 1, none⟩ (.slice A5 m c5)).setCell ⟨w.heap.size + 1, 2, none⟩ (.slice B5 m d5)).setCell ⟨w.heap.size + 1, 3, none⟩ (.slice none 0 0)).setCell ⟨w.heap.size + 1 + 1, 0, none⟩ (.int .u8 1)).setCell ⟨w.heap.size + 1 + 1, 1, none⟩ (.slice A6 (keys.length - m) c6)).setCell ⟨w.heap.size + 1 + 1, 2, none⟩ (.slice B6 (vals.length - m) d6)).setCell ⟨w.heap.size + 1 + 1, 3, none⟩ (.slice none 0 0)))) := (by (focus ((repeat (first | with_reducible assumption | with_reducible exact Ch.refl _ _ | with_reducible refine Ch.drew ?_ | with_reducible refine Ch.drewN ?_ _ | with_reducible refine Ch.alloc ?_ _ | with_reducible refine Ch.cellput ?_ (by simp) _ | (with_reducible refine Ch.same ?_ (by with_reducible assumption)) | (with_reducible refine Ch.step ?_ (by with_reducible assumption)))); done)))
            have key : ∀ {T : TypeId} {n : Nat} {cs : List Value} {A' : Option Addr} {c' : Nat}, App wc v.heap.size T 1 (.slice A' n c') n cs → Rd _ A' cs := fun a => (App.rd (a.ch hch (fun g hg e => by have := a.ge g e; simp at hg; omega))).1
            have l1 : (keys.take m).length = m := by simp; omega
            have l2 : (vals.take m).length = m := by simp; omega
            have l3 : (keys.drop m).length = keys.length - m := by simp
            have l4 : (vals.drop m).length = vals.length - m := by simp
            refine ⟨_, _, rfl, ⟨A5, c5, B5, d5, none, 0, by simp only [l1, l2, List.length_nil], key HQ5.out, key HQB5.out, Rd.nil _ _⟩, ⟨A6, c6, B6, d6, none, 0, by simp only [l3, l4, List.length_nil], key HQ6.out, key HQB6.out, Rd.nil _ _⟩, ?_⟩
            exact (((HW2.out.ch [g6, g7]).same HC2.out |>.bl (by intro g hg; simp at hg; omega)).ch [w.heap.size + 1, w.heap.size + 1 + 1] |>.same hch).bl (by intro g hg; simp at hg; omega)
    · subst hk2
      subst hvn
      obtain ⟨m, hm⟩ : ∃ m : Nat, m = keys.length / 2 := ⟨_, rfl⟩
      have HP := Lib.hid (show nodePart 2 keys [] kids = ⟨⟨2, keys.take m, [], kids.take (m + 1)⟩, keys.getD m .empty, ⟨2, keys.drop (m + 1), [], kids.drop (m + 1)⟩, 0⟩ by unfold nodePart; rw [if_neg hbad, if_neg (by decide), ← hm])
      have HVL := Lib.hid hkl
      have hvm : m + 1 ≤ kids.length := by omega
      have em : ((keys.length : Int) / 2) = (m : Int) := by omega
      have ew : wrap64 ((m : Int) + 1) = (m : Int) + 1 := by unfold wrap64; omega
      have ew2 : IntKind.i64.wrap ((m : Int) + 1) = (m : Int) + 1 := by rw [IntKind.wrap_i64]; omega
      have hmk : m < keys.length := by omega
      obtain ⟨x, hx⟩ := get_some keys m hmk
      obtain ⟨b, o, rfl, hcx⟩ := RK.out.get hx
      simp only [sv] at hcx
      have HCX := Lib.hid hcx
      have HX := Lib.hid (getD_of hx ByteArray.empty)
      clear hbad hr hko hno hkl hm
      clear hx hcx
      simp only [List.length_nil] at HO1 o2 o3 ⊢
      obtain ⟨t6, t7⟩ := two_setup w1 2
      have H6 := Lib.hid t6
      have H7 := Lib.hid t7
      have hbv := ((Bl.refl w1).alloc (.cells #[.int .u8 2, .slice none 0 0, .slice none 0 0, .slice none 0 0] 52)).alloc (.cells #[.int .u8 2, .slice none 0 0, .slice none 0 0, .slice none 0 0] 52)
      have HO2 := Lib.hid (HO1.out.bl hbv)
      have HY2 := Lib.hid (HY1.out.bl hbv)
      have HZ2 := Lib.hid (HZ1.out.bl hbv)
      have HW2 := Lib.hid (HW1.out.trans hbv)
      have hlt1 := HZ1.out.lt
      obtain ⟨p0, p1, p2, p3, _⟩ := Ob.all4 (HO1.out.bl ((Bl.refl w1).alloc (.cells #[.int .u8 2, .slice none 0 0, .slice none 0 0, .slice none 0 0] 52)))
      obtain ⟨r0, r1, r2, r3, _⟩ := Ob.all4 HO2.out
      clear t6 t7 hbv y0 y1 y2 y3 yf0 yf1 yf2 yf3 z0 z1 z2 z3 zf0 zf1 zf2 zf3
      go_upto_region 11 with (fail)
      clear em o0 o1 o2 o3 p0 p1 p2 p3 r0 r1 r2 r3
      generalize (w1.alloc (.cells #[.int .u8 2, .slice none 0 0, .slice none 0 0, .slice none 0 0] 52)).alloc (.cells #[.int .u8 2, .slice none 0 0, .slice none 0 0, .slice none 0 0] 52) = v at H6 H7 HO2 HY2 HZ2 HW2 ⊢
      have hlt7 := H7.out.lt
      generalize hg7 : w1.heap.size + 1 = g7 at H7 hlt7 ⊢
      generalize hg6 : w1.heap.size = g6 at H6 hlt1 hg7 ⊢
      have HK : Hid (∀ w' : World, Ch [g6, g7] v w' → w'.cell? ⟨w.heap.size, 0, none⟩ = some (.int .u8 2) ∧ w'.cell? ⟨w.heap.size, 1, none⟩ = some (.slice (some ⟨b, o, none⟩) keys.length c) ∧ w'.cell? ⟨w.heap.size, 2, none⟩ = some (.slice B 0 d) ∧ w'.cell? ⟨w.heap.size, 3, none⟩ = some (.slice I kids.length ci) ∧ Ch [g6, g7] v w') := fun w' h => by
        obtain ⟨a0, a1, a2, a3, _⟩ := Ob.all4 (HO2.out.ch h (by simp; omega))
        exact ⟨a0, a1, a2, a3, h⟩
      have HRA : Hid (∀ w', Ch [g6, g7] v w' → Rd w' (some ⟨b, o, none⟩) (keys.map sv)) := fun w' h => RK.out.later HW2.out h (by intro g hg; simp at hg; omega)
      have HRB : Hid (∀ w', Ch [g6, g7] v w' → Rd w' I (kids.map iv)) := fun w' h => RN.out.later HW2.out h (by intro g hg; simp at hg; omega)
      have HRX : Hid (∀ w', Ch [g6, g7] v w' → w'.cell? ⟨b, o + m, none⟩ = some (.string x)) := fun w' h => ((HW2.out.ch [g6, g7]).same h |>.bl (by intro g hg; simp at hg; omega)).cellAt HCX.out
      have q1 : Hid (∀ w', Ch [g6, g7] v w' → Calls Try.prog 87 #[.slice (some ⟨b, o, none⟩) m c] w' (TX m (keys.take m) w')) := fun w' h => texts_n m (some ⟨b, o, none⟩) c (keys.take m) w' (by simp; omega) (by omega) (by rw [List.map_take]; exact (HRA.out w' h).take m)
      have q2 : Hid (∀ w', Ch [g6, g7] v w' → Calls Try.prog 88 #[.slice I (m + 1) ci] w' (NX (m + 1) (kids.take (m + 1)) w')) := fun w' h => ints_n (m + 1) I ci (kids.take (m + 1)) w' (by simp; omega) (by omega) (by rw [List.map_take]; exact (HRB.out w' h).take (m + 1))
      have q3 : Hid (∀ w', Ch [g6, g7] v w' → Calls Try.prog 87 #[.slice (cutAddr (some ⟨b, o, none⟩) 1 (m + 1) c) (keys.length - (m + 1)) (c - (m + 1))] w' (TX (keys.length - (m + 1)) (keys.drop (m + 1)) w')) := fun w' h => texts_n (keys.length - (m + 1)) (cutAddr (some ⟨b, o, none⟩) 1 (m + 1) c) (c - (m + 1)) (keys.drop (m + 1)) w' (by simp) (by omega) (by have := (HRA.out w' h).cutTo 1 (m + 1) c (by intro e; simp; omega); simpa [List.map_drop] using this)
      have q4 : Hid (∀ w', Ch [g6, g7] v w' → Calls Try.prog 88 #[.slice (cutAddr I 1 (m + 1) ci) (kids.length - (m + 1)) (ci - (m + 1))] w' (NX (kids.length - (m + 1)) (kids.drop (m + 1)) w')) := fun w' h => ints_n (kids.length - (m + 1)) (cutAddr I 1 (m + 1) ci) (ci - (m + 1)) (kids.drop (m + 1)) w' (by simp) (by omega) (by have := (HRB.out w' h).cutTo 1 (m + 1) ci (by intro e; simp; omega); simpa [List.map_drop] using this)
      have H67 : g6 ≠ g7 ∧ g7 ≠ g6 := ⟨by omega, by omega⟩
      obtain ⟨ne1, ne2⟩ := H67
      go_cut [] (fun wx => Hid (∃ (A5 : Option Addr) (c5 : Nat) (B5 : Option Addr) (d5 : Nat), Ob wx g6 52 #[.int .u8 2, .slice A5 m c5, .slice none 0 0, .slice B5 (m + 1) d5] ∧ App wx v.heap.size 9 1 (.slice A5 m c5) m ((keys.take m).map sv) ∧ App wx v.heap.size 3 1 (.slice B5 (m + 1) d5) (m + 1) ((kids.take (m + 1)).map iv) ∧ Ch [g6] v wx))
      case first =>
        have r1 := cut_h (P := Try.prog) 49 9 1 Try.underlying49 Try.sizeStr (some ⟨b, o, none⟩) keys.length c m (by omega)
        have r2 := cut_h (P := Try.prog) 50 3 1 Try.underlying50 Try.sizeInt I kids.length ci (m + 1) (by omega)
        push_cast at r2
        go_region_held3 (fun w' => w'.cell? ⟨w.heap.size, 0, none⟩ = some (.int .u8 2) ∧ w'.cell? ⟨w.heap.size, 1, none⟩ = some (.slice (some ⟨b, o, none⟩) keys.length c) ∧ w'.cell? ⟨w.heap.size, 2, none⟩ = some (.slice B 0 d) ∧ w'.cell? ⟨w.heap.size, 3, none⟩ = some (.slice I kids.length ci) ∧ Ch [g6, g7] v w')
          (exact HK.out _ (by (focus ((repeat (first | with_reducible assumption | with_reducible exact Ch.refl _ _ | with_reducible refine Ch.drew ?_ | with_reducible refine Ch.drewN ?_ _ | with_reducible refine Ch.alloc ?_ _ | with_reducible refine Ch.cellput ?_ (by simp) _ | (with_reducible refine Ch.same ?_ (by with_reducible assumption)) | (with_reducible refine Ch.step ?_ (by with_reducible assumption)))); done))))
          (first
            | (go_at_call 87; (with_reducible refine (q1.out _ (by (focus ((repeat (first | with_reducible assumption | with_reducible exact Ch.refl _ _ | with_reducible refine Ch.drew ?_ | with_reducible refine Ch.drewN ?_ _ | with_reducible refine Ch.alloc ?_ _ | with_reducible refine Ch.cellput ?_ (by simp) _ | (with_reducible refine Ch.same ?_ (by with_reducible assumption)) | (with_reducible refine Ch.step ?_ (by with_reducible assumption)))); done)))).mono ?_); rintro e w5a ⟨A5, c5, rfl, hA5, hbl5a⟩)
            | (go_at_call 88; (with_reducible refine (q2.out _ (by (focus ((repeat (first | with_reducible assumption | with_reducible exact Ch.refl _ _ | with_reducible refine Ch.drew ?_ | with_reducible refine Ch.drewN ?_ _ | with_reducible refine Ch.alloc ?_ _ | with_reducible refine Ch.cellput ?_ (by simp) _ | (with_reducible refine Ch.same ?_ (by with_reducible assumption)) | (with_reducible refine Ch.step ?_ (by with_reducible assumption)))); done)))).mono ?_); rintro e w6a ⟨B5, d5, rfl, hB5, hbl6a⟩; have hb6a : Bl v w6a := (by (focus ((repeat (first | with_reducible assumption | exact Bl.refl _ | refine Bl.drew ?_ | refine Bl.drewN ?_ _ | refine Bl.alloc ?_ _ | (refine Bl.trans ?_ (by with_reducible assumption)))); done))); obtain ⟨y0, y1, y2, y3, yf0, yf1, yf2, yf3⟩ := Ob.all4 (H6.out.bl hb6a)))
        all_goals
          go_wp2_with fail
          go_meet
          case rel =>
            have hob := H6.out.bl hb6a
            have hp := (hob.set 1 (.slice A5 m c5)).set 3 (.slice B5 (m + 1) d5)
            have hch := (Ch.put w6a g6 1 (.slice A5 m c5)).same (Ch.put _ g6 3 (.slice B5 (m + 1) d5))
            have h56 : Bl w5a w6a := hbl6a
            have s5 : v.heap.size ≤ w5a.heap.size := by have := hbl5a.size; simpa using this
            refine ⟨A5, c5, B5, d5, by simpa using hp, ((hA5.bl h56).ch hch (fun g hg e => by have := hA5.ge g e; simp at hg this; omega)).mono (by simp), (hB5.ch hch (fun g hg e => by have := hB5.ge g e; simp at hg; omega)).mono (by omega), ((hb6a.ch [g6]).same hch)⟩
      case rest =>
        obtain ⟨A5, c5, B5, d5, hob5, hA5, hB5, hcw⟩ := hcut.out
        have HO5 := Lib.hid hob5
        have HA5 := Lib.hid hA5
        have HB5 := Lib.hid hB5
        have H7b := Lib.hid (H7.out.ch hcw (by simp; omega))
        have hcw1 := hcw.mono (M := [g6, g7]) (by simp)
        have HCW := Lib.hid hcw1
        clear hob5 hA5 hB5 hcw hcw1
        go_upto_region 12 with (fail)
        go_cut [] (fun wx => Hid (∃ (A6 : Option Addr) (c6 : Nat) (B6 : Option Addr) (d6 : Nat), Ob wx g6 52 #[.int .u8 2, .slice A5 m c5, .slice none 0 0, .slice B5 (m + 1) d5] ∧ Ob wx g7 52 #[.int .u8 2, .slice A6 (keys.length - (m + 1)) c6, .slice none 0 0, .slice B6 (kids.length - (m + 1)) d6] ∧ App wx v.heap.size 9 1 (.slice A5 m c5) m ((keys.take m).map sv) ∧ App wx v.heap.size 3 1 (.slice B5 (m + 1) d5) (m + 1) ((kids.take (m + 1)).map iv) ∧ App wx v.heap.size 9 1 (.slice A6 (keys.length - (m + 1)) c6) (keys.length - (m + 1)) ((keys.drop (m + 1)).map sv) ∧ App wx v.heap.size 3 1 (.slice B6 (kids.length - (m + 1)) d6) (kids.length - (m + 1)) ((kids.drop (m + 1)).map iv) ∧ Ch [g6, g7] v wx))
        case first =>
          have hcw := HCW.out
          have wsz := HCW.out.size
          have r1 := cut_l (P := Try.prog) 49 9 1 Try.underlying49 Try.sizeStr (some ⟨b, o, none⟩) keys.length c (m + 1) (by omega)
          have r2 := cut_l (P := Try.prog) 50 3 1 Try.underlying50 Try.sizeInt I kids.length ci (m + 1) (by omega)
          push_cast at r1 r2
          go_region_held3 (fun w' => w'.cell? ⟨w.heap.size, 0, none⟩ = some (.int .u8 2) ∧ w'.cell? ⟨w.heap.size, 1, none⟩ = some (.slice (some ⟨b, o, none⟩) keys.length c) ∧ w'.cell? ⟨w.heap.size, 2, none⟩ = some (.slice B 0 d) ∧ w'.cell? ⟨w.heap.size, 3, none⟩ = some (.slice I kids.length ci) ∧ Ch [g6, g7] v w')
            (exact HK.out _ (by (focus ((repeat (first | with_reducible assumption | with_reducible exact Ch.refl _ _ | with_reducible refine Ch.drew ?_ | with_reducible refine Ch.drewN ?_ _ | with_reducible refine Ch.alloc ?_ _ | with_reducible refine Ch.cellput ?_ (by simp) _ | (with_reducible refine Ch.same ?_ (by with_reducible assumption)) | (with_reducible refine Ch.step ?_ (by with_reducible assumption)))); done))))
            (first
              | (go_at_call 87; (with_reducible refine (q3.out _ (by (focus ((repeat (first | with_reducible assumption | with_reducible exact Ch.refl _ _ | with_reducible refine Ch.drew ?_ | with_reducible refine Ch.drewN ?_ _ | with_reducible refine Ch.alloc ?_ _ | with_reducible refine Ch.cellput ?_ (by simp) _ | (with_reducible refine Ch.same ?_ (by with_reducible assumption)) | (with_reducible refine Ch.step ?_ (by with_reducible assumption)))); done)))).mono ?_); rintro e w5b ⟨A6, c6, rfl, hA6, hbl5b⟩)
              | (go_at_call 88; (with_reducible refine (q4.out _ (by (focus ((repeat (first | with_reducible assumption | with_reducible exact Ch.refl _ _ | with_reducible refine Ch.drew ?_ | with_reducible refine Ch.drewN ?_ _ | with_reducible refine Ch.alloc ?_ _ | with_reducible refine Ch.cellput ?_ (by simp) _ | (with_reducible refine Ch.same ?_ (by with_reducible assumption)) | (with_reducible refine Ch.step ?_ (by with_reducible assumption)))); done)))).mono ?_); rintro e w6b ⟨B6, d6, rfl, hB6, hbl6b⟩; have hb6b : Bl wc w6b := (by (focus ((repeat (first | with_reducible assumption | exact Bl.refl _ | refine Bl.drew ?_ | refine Bl.drewN ?_ _ | refine Bl.alloc ?_ _ | (refine Bl.trans ?_ (by with_reducible assumption)))); done))); obtain ⟨y0, y1, y2, y3, yf0, yf1, yf2, yf3⟩ := Ob.all4 (H7b.out.bl hb6b)))
          all_goals
            go_wp2_with fail
            go_meet
            case rel =>
              have hob := H7b.out.bl hb6b
              have hp := (hob.set 1 (.slice A6 (keys.length - (m + 1)) c6)).set 3 (.slice B6 (kids.length - (m + 1)) d6)
              have hch := (Ch.put w6b g7 1 (.slice A6 (keys.length - (m + 1)) c6)).same (Ch.put _ g7 3 (.slice B6 (kids.length - (m + 1)) d6))
              have s5 : wc.heap.size ≤ w5b.heap.size := by have := hbl5b.size; simpa using this
              have key : ∀ {T : TypeId} {v1 : Value} {n bb : Nat} {cs : List Value}, App w6b bb T 1 v1 n cs → v.heap.size ≤ bb → App _ v.heap.size T 1 v1 n cs := fun a hb => (a.ch hch (fun g hg e => by have := a.ge g e; simp at hg; omega)).mono hb
              refine ⟨A6, c6, B6, d6, (HO5.out.bl hb6b).ch hch (by simp; omega), by simpa using hp, key (HA5.out.bl hb6b) (Nat.le_refl _), key (HB5.out.bl hb6b) (Nat.le_refl _), key (hA6.bl hbl6b) (by simp; omega), key hB6 (by omega), ?_⟩
              exact (HCW.out.thenBl hb6b).same (hch.mono (by simp))
        case rest =>
          obtain ⟨A6, c6, B6, d6, hob6, hob7, hA5, hB5, hA6, hB6, hcw⟩ := hcut.out
          have HP6 := Lib.hid hob6
          have HP7 := Lib.hid hob7
          have HC2 := Lib.hid hcw
          have HYc := Lib.hid (HY2.out.ch hcw (by simp; omega))
          have HZc := Lib.hid (HZ2.out.ch hcw (by simp; omega))
          have HQ5 := Lib.hid hA5
          have HQB5 := Lib.hid hB5
          have HQ6 := Lib.hid hA6
          have HQB6 := Lib.hid hB6
          obtain ⟨y0, y1, y2, y3, yf0, yf1, yf2, yf3⟩ := Ob.all4 HYc.out
          obtain ⟨z0, z1, z2, z3, zf0, zf1, zf2, zf3⟩ := Ob.all4 HZc.out
          have HK3 : Hid (∀ w' : World, Ch [w.heap.size + 1, w.heap.size + 1 + 1] wc w' → w'.cell? ⟨w.heap.size, 0, none⟩ = some (.int .u8 2) ∧ w'.cell? ⟨w.heap.size, 1, none⟩ = some (.slice (some ⟨b, o, none⟩) keys.length c) ∧ w'.cell? ⟨w.heap.size, 2, none⟩ = some (.slice B 0 d) ∧ w'.cell? ⟨w.heap.size, 3, none⟩ = some (.slice I kids.length ci) ∧ w'.cell? ⟨b, o + m, none⟩ = some (.string x) ∧ w'.cell? ⟨g6, 0, none⟩ = some (.int .u8 2) ∧ w'.cell? ⟨g6, 1, none⟩ = some (.slice A5 m c5) ∧ w'.cell? ⟨g6, 2, none⟩ = some (.slice none 0 0) ∧ w'.cell? ⟨g6, 3, none⟩ = some (.slice B5 (m + 1) d5) ∧ w'.cell? ⟨g7, 0, none⟩ = some (.int .u8 2) ∧ w'.cell? ⟨g7, 1, none⟩ = some (.slice A6 (keys.length - (m + 1)) c6) ∧ w'.cell? ⟨g7, 2, none⟩ = some (.slice none 0 0) ∧ w'.cell? ⟨g7, 3, none⟩ = some (.slice B6 (kids.length - (m + 1)) d6) ∧ Ch [w.heap.size + 1, w.heap.size + 1 + 1] wc w') := fun w' h => by
            obtain ⟨a0, a1, a2, a3, _⟩ := Ob.all4 ((HO2.out.ch HC2.out (by simp; omega)).ch h (by simp <;> omega))
            obtain ⟨i0, i1, i2, i3, _⟩ := Ob.all4 (HP6.out.ch h (by simp <;> omega))
            obtain ⟨j0, j1, j2, j3, _⟩ := Ob.all4 (HP7.out.ch h (by simp <;> omega))
            have hx : w'.cell? ⟨b, o + m, none⟩ = some (.string x) := (((HW2.out.ch [g6, g7]).same HC2.out |>.bl (by intro g hg; simp at hg; omega)).ch [w.heap.size + 1, w.heap.size + 1 + 1] |>.same h |>.bl (by intro g hg; simp at hg; omega)).cellAt HCX.out
            exact ⟨a0, a1, a2, a3, hx, i0, i1, i2, i3, j0, j1, j2, j3, h⟩
          clear hob6 hob7 hA5 hB5 hA6 hB6 hcw
          go_upto_region 13 with (fail)
          go_region_held3 (fun w' => w'.cell? ⟨w.heap.size, 0, none⟩ = some (.int .u8 2) ∧ w'.cell? ⟨w.heap.size, 1, none⟩ = some (.slice (some ⟨b, o, none⟩) keys.length c) ∧ w'.cell? ⟨w.heap.size, 2, none⟩ = some (.slice B 0 d) ∧ w'.cell? ⟨w.heap.size, 3, none⟩ = some (.slice I kids.length ci) ∧ w'.cell? ⟨b, o + m, none⟩ = some (.string x) ∧ w'.cell? ⟨g6, 0, none⟩ = some (.int .u8 2) ∧ w'.cell? ⟨g6, 1, none⟩ = some (.slice A5 m c5) ∧ w'.cell? ⟨g6, 2, none⟩ = some (.slice none 0 0) ∧ w'.cell? ⟨g6, 3, none⟩ = some (.slice B5 (m + 1) d5) ∧ w'.cell? ⟨g7, 0, none⟩ = some (.int .u8 2) ∧ w'.cell? ⟨g7, 1, none⟩ = some (.slice A6 (keys.length - (m + 1)) c6) ∧ w'.cell? ⟨g7, 2, none⟩ = some (.slice none 0 0) ∧ w'.cell? ⟨g7, 3, none⟩ = some (.slice B6 (kids.length - (m + 1)) d6) ∧ Ch [w.heap.size + 1, w.heap.size + 1 + 1] wc w')
            (exact HK3.out _ (by (focus ((repeat (first | with_reducible assumption | with_reducible exact Ch.refl _ _ | with_reducible refine Ch.drew ?_ | with_reducible refine Ch.drewN ?_ _ | with_reducible refine Ch.alloc ?_ _ | with_reducible refine Ch.cellput ?_ (by simp) _ | (with_reducible refine Ch.same ?_ (by with_reducible assumption)) | (with_reducible refine Ch.step ?_ (by with_reducible assumption)))); done))))
            (first
              | fail)
          all_goals
            go_wp2_with fail
            have hy6 := HYc.out
            have hz6 := HZc.out
            refine bodyPost_ret (v := .tuple #[.agg _, .string x, .agg _, .int .i64 0]) (results_ctct (v := .string x) (v2 := .int .i64 0) rfl _ _ (Ob.bl ((hy6.set4 _ _ _ _).1.ch ((hz6.ch (hy6.set4 _ _ _ _).2 (by simp)).set4 _ _ _ _).2 (by simp)) (Bl.refl _).drew) (Ob.bl ((hz6.ch (hy6.set4 _ _ _ _).2 (by simp)).set4 _ _ _ _).1 (Bl.refl _).drew) rfl rfl rfl rfl Try.underlying52 rfl Try.sizeNode Try.sizeNode) rfl ?_
            unfold RetPart
            rw [HP.out]
            simp only [HX.out]
            have hch : Ch [w.heap.size + 1, w.heap.size + 1 + 1] wc (World.drew (((((((((wc.setCell ⟨w.heap.size + 1, 0, none⟩ (.int .u8 2)).setCell ⟨w.heap.size + 1, 1, none⟩ (.slice A5 m c5)).setCell ⟨w.heap.size + 1, 2, none⟩ (.slice none 0 0)).setCell ⟨w.heap.size + 1, 3, none⟩ (.slice B5 (m + 1) d5)).setCell ⟨w.heap.size + 1 + 1, 0, none⟩ (.int .u8 2)).setCell ⟨w.heap.size + 1 + 1, 1, none⟩ (.slice A6 (keys.length - (m + 1)) c6)).setCell ⟨w.heap.size + 1 + 1, 2, none⟩ (.slice none 0 0)).setCell ⟨w.heap.size + 1 + 1, 3, none⟩ (.slice B6 (kids.length - (m + 1)) d6)))) := (by (focus ((repeat (first | with_reducible assumption | with_reducible exact Ch.refl _ _ | with_reducible refine Ch.drew ?_ | with_reducible refine Ch.drewN ?_ _ | with_reducible refine Ch.alloc ?_ _ | with_reducible refine Ch.cellput ?_ (by simp) _ | (with_reducible refine Ch.same ?_ (by with_reducible assumption)) | (with_reducible refine Ch.step ?_ (by with_reducible assumption)))); done)))
            have key : ∀ {T : TypeId} {n : Nat} {cs : List Value} {A' : Option Addr} {c' : Nat}, App wc v.heap.size T 1 (.slice A' n c') n cs → Rd _ A' cs := fun a => (App.rd (a.ch hch (fun g hg e => by have := a.ge g e; simp at hg; omega))).1
            have l1 : (keys.take m).length = m := by simp; omega
            have l2 : (kids.take (m + 1)).length = m + 1 := by simp; omega
            have l3 : (keys.drop (m + 1)).length = keys.length - (m + 1) := by simp
            have l4 : (kids.drop (m + 1)).length = kids.length - (m + 1) := by simp
            refine ⟨_, _, rfl, ⟨A5, c5, none, 0, B5, d5, by simp only [l1, l2, List.length_nil], key HQ5.out, Rd.nil _ _, key HQB5.out⟩, ⟨A6, c6, none, 0, B6, d6, by simp only [l3, l4, List.length_nil], key HQ6.out, Rd.nil _ _, key HQB6.out⟩, ?_⟩
            exact (((HW2.out.ch [g6, g7]).same HC2.out |>.bl (by intro g hg; simp at hg; omega)).ch [w.heap.size + 1, w.heap.size + 1 + 1] |>.same hch).bl (by intro g hg; simp at hg; omega)
end Go.Proofs.Ytedmamchfgkkfaa
/- Layer 22 (deed) and its reference walked: which answers may be, and whether two are the same. -/
namespace Go.Proofs.Ytedmamchfgkkfaa
open Go.RowKit
set_option maxRecDepth 100000
set_option maxHeartbeats 2000000

/-- Which answers may be: the fault, N, how many bytes, how many Ids. -/
def ansMay (e n : Int) (nb ni : Nat) : Bool := decide (0 ≤ e ∧ e ≤ 13 ∧ 0 ≤ n ∧ nb ≤ 65536 ∧ ni ≤ 65536)
abbrev ansV (e id n : Int) (A : Option Addr) (m c : Nat) (I : Option Addr) (k d : Nat) (more : Bool) : Value := .agg #[.int .i64 e, .int .u64 id, .int .i64 n, .slice A m c, .slice I k d, .bool more]
theorem ans_may (e id n : Int) (A I : Option Addr) (m c k d : Nat) (more : Bool) (w : World) (hm : m ≤ 281474976710656) (hk : k ≤ 281474976710656) :
    Calls Try.prog 67 #[ansV e id n A m c I k d more] w (RetBl (ansMay e n m k) w) := by
  go_enter Try.func67, Try.ntmps67
  go_wp2_with fail
  all_goals
    go_ret
    refine RetBl.mk ?_ ((Bl.refl w).alloc _)
    try simp only [beq_iff_eq, beq_eq_false_iff_ne, bne_iff_ne, bne_eq_false_iff_eq, ne_eq, Bool.not_eq_false', Bool.not_eq_true'] at *
    rw [Bool.eq_iff_iff]
    simp only [ansMay, decide_eq_true_eq]
    try simp
    try omega
theorem ref_ansMay (e id n : Int) (A I : Option Addr) (m c k d : Nat) (more : Bool) (w : World) (hm : m ≤ 281474976710656) (hk : k ≤ 281474976710656) :
    Calls Try.prog 70 #[ansV e id n A m c I k d more] w (RetBl (ansMay e n m k) w) := by
  go_enter Try.func70, Try.ntmps70
  go_wp2_with fail
  all_goals
    go_ret
    refine RetBl.mk ?_ ((Bl.refl w).alloc _)
    try simp only [beq_iff_eq, beq_eq_false_iff_ne, bne_iff_ne, bne_eq_false_iff_eq, ne_eq, Bool.not_eq_false', Bool.not_eq_true'] at *
    rw [Bool.eq_iff_iff]
    simp only [ansMay, decide_eq_true_eq]
    try simp
    try omega
theorem by_equal (A B : Option Addr) (c d : Nat) (xs ys : List UInt8) (w : World) (_hl : xs.length ≤ 281474976710656) (hx : Rd w A (xs.map bv)) (hy : Rd w B (ys.map bv)) :
    Calls Try.prog 72 #[.slice A xs.length c, .slice B ys.length d] w (RetDr (decide (xs = ys)) w) := by
  have c1 := conv_bytes (P := Try.prog) w 24 5 9 Try.underlying24 Try.underlying5 Try.underlying9 A c xs hx
  have c2 := conv_bytes (P := Try.prog) w 24 5 9 Try.underlying24 Try.underlying5 Try.underlying9 B d ys hy
  clear hx hy
  go_enter Try.func72, Try.ntmps72
  go_wp2_with fail
  go_ret
  exact RetDr.mk (by rw [Bool.eq_iff_iff]; simp) (Dr.refl w)
theorem sl_equal (A B : Option Addr) (c d : Nat) (xs ys : List Nat) (w : World) (hl : xs.length ≤ 281474976710656) (hx : Rd w A (xs.map wv)) (hy : Rd w B (ys.map wv)) :
    Calls Try.prog 73 #[.slice A xs.length c, .slice B ys.length d] w (RetDr (decide (xs = ys)) w) := by
  have HX := Lib.hid hx
  have HY := Lib.hid hy
  clear hx hy
  by_cases hlen : xs.length = ys.length
  · have H2 := Lib.hid hlen
    have h2 : ((xs.length : Int) != (ys.length : Int)) = false := by rw [bne_eq_false_iff_eq]; omega
    clear hlen
    go_enter Try.func73, Try.ntmps73
    go_wp2_with fail
    go_loopw [5, 13] (fun _ i wr => ∃ k : Nat, k ≤ xs.length ∧ i = .int .i64 k ∧ Hid (Dr w wr) ∧ Hid (xs.take k = ys.take k)) (fun _ i _ => xs.length - (intOf i).toNat)
    case atStart => exact ⟨0, by omega, rfl, Dr.refl w, rfl⟩
    case round =>
      obtain ⟨k, hk, rfl, HD, HEQ⟩ := hrel
      by_cases hlt : k < xs.length
      · obtain ⟨x, hx⟩ := get_some xs k hlt
        obtain ⟨y, hy⟩ := get_some ys k (by have := H2.out; omega)
        obtain ⟨b, o, rfl, hcx⟩ := (HX.out.dr HD.out).get hx
        obtain ⟨b', o', rfl, hcy⟩ := (HY.out.dr HD.out).get hy
        have hlt2 : k < ys.length := by have := H2.out; omega
        have HS := Lib.hid (take_same hx hy HEQ.out)
        have HN := Lib.hid (take_other hx hy)
        clear hx hy HEQ
        simp only [wv] at hcx hcy
        by_cases hxy : x = y
        · have hb : ((x : Int) != (y : Int)) = false := by subst hxy; simp
          have HXY := Lib.hid hxy
          clear hxy HN
          go_wp2_with fail
          go_quiet (fail)
          go_wp2_with fail
          go_roundw
          case rel => exact ⟨k + 1, by omega, by go_num, HD.out.drewN _, HS.out HXY.out⟩
          case measure => simp [intOf]; omega
        · have hb : ((x : Int) != (y : Int)) = true := by rw [bne_iff_ne]; omega
          have HXY := Lib.hid hxy
          clear hxy HS
          go_wp2_with fail
          go_quiet (fail)
          go_wp2_with fail
          go_ret
          exact RetDr.mk (decide_eq_false (HN.out HXY.out)).symm (HD.out.drewN _)
      · have HE : Hid (xs = ys) := by
          have h1 := HEQ.out
          rw [List.take_of_length_le (by omega), List.take_of_length_le (by have := H2.out; omega)] at h1
          exact h1
        go_wp2_with fail
        go_ret
        exact RetDr.mk (decide_eq_true HE.out).symm HD.out
  · have h2 : ((xs.length : Int) != (ys.length : Int)) = true := by rw [bne_iff_ne]; omega
    have HN := Lib.hid (show ¬ xs = ys from fun h => hlen (by rw [h]))
    clear hlen
    go_enter Try.func73, Try.ntmps73
    go_wp2_with fail
    go_ret
    exact RetDr.mk (decide_eq_false HN.out).symm (Dr.refl w)

theorem ans_same (e id n e2 id2 n2 : Int) (more more2 : Bool) (A B I J : Option Addr) (c d ci di : Nat) (xs ys : List UInt8) (us vs : List Nat) (w : World) (hl : xs.length ≤ 281474976710656) (hlu : us.length ≤ 281474976710656) (hx : Rd w A (xs.map bv)) (hy : Rd w B (ys.map bv)) (hu : Rd w I (us.map wv)) (hv : Rd w J (vs.map wv)) :
    Calls Try.prog 28 #[ansV e id n A xs.length c I us.length ci more, ansV e2 id2 n2 B ys.length d J vs.length di more2] w (RetBl (decide (e = e2 ∧ id = id2 ∧ n = n2 ∧ more = more2 ∧ xs = ys ∧ us = vs)) w) := by
  have HX := Lib.hid hx
  have HY := Lib.hid hy
  have HU := Lib.hid hu
  have HV := Lib.hid hv
  clear hx hy hu hv
  by_cases h0 : e = e2
  case neg =>
    have b0 : (e == e2) = false := by simpa using h0
    have HC := Lib.hid (show false = decide (e = e2 ∧ id = id2 ∧ n = n2 ∧ more = more2 ∧ xs = ys ∧ us = vs) by simp [h0])
    clear h0
    go_enter Try.func28, Try.ntmps28
    go_wp2_with fail
    go_ret
    exact RetBl.mk HC.out (((Bl.refl w).alloc _).alloc _)
  by_cases h1 : id = id2
  case neg =>
    have b0 : (e == e2) = true := by simpa using h0
    have b1 : (id == id2) = false := by simpa using h1
    have HC := Lib.hid (show false = decide (e = e2 ∧ id = id2 ∧ n = n2 ∧ more = more2 ∧ xs = ys ∧ us = vs) by simp [h1])
    clear h0 h1
    go_enter Try.func28, Try.ntmps28
    go_wp2_with fail
    go_ret
    exact RetBl.mk HC.out (((Bl.refl w).alloc _).alloc _)
  by_cases h2 : n = n2
  case neg =>
    have b0 : (e == e2) = true := by simpa using h0
    have b1 : (id == id2) = true := by simpa using h1
    have b2 : (n == n2) = false := by simpa using h2
    have HC := Lib.hid (show false = decide (e = e2 ∧ id = id2 ∧ n = n2 ∧ more = more2 ∧ xs = ys ∧ us = vs) by simp [h2])
    clear h0 h1 h2
    go_enter Try.func28, Try.ntmps28
    go_wp2_with fail
    go_ret
    exact RetBl.mk HC.out (((Bl.refl w).alloc _).alloc _)
  by_cases h3 : more = more2
  case neg =>
    have b0 : (e == e2) = true := by simpa using h0
    have b1 : (id == id2) = true := by simpa using h1
    have b2 : (n == n2) = true := by simpa using h2
    have b3 : (more == more2) = false := by simpa using h3
    have HC := Lib.hid (show false = decide (e = e2 ∧ id = id2 ∧ n = n2 ∧ more = more2 ∧ xs = ys ∧ us = vs) by simp [h3])
    clear h0 h1 h2 h3
    go_enter Try.func28, Try.ntmps28
    go_wp2_with fail
    go_ret
    exact RetBl.mk HC.out (((Bl.refl w).alloc _).alloc _)
  have b0 : (e == e2) = true := by simpa using h0
  have b1 : (id == id2) = true := by simpa using h1
  have b2 : (n == n2) = true := by simpa using h2
  have b3 : (more == more2) = true := by simpa using h3
  by_cases h4 : xs = ys
  case neg =>
    have HC := Lib.hid (show false = decide (e = e2 ∧ id = id2 ∧ n = n2 ∧ more = more2 ∧ xs = ys ∧ us = vs) by simp [h4])
    have HQ := Lib.hid (decide_eq_false h4)
    clear h0 h1 h2 h3 h4
    go_enter Try.func28, Try.ntmps28
    go_wp2_with (first | (go_at_call 72; go_must (refine (by_equal A B c d xs ys _ hl (HX.out.bl (((Bl.refl w).alloc _).alloc _)) (HY.out.bl (((Bl.refl w).alloc _).alloc _))).mono ?_); rintro e w1 ⟨rfl, hdr⟩; rw [HQ.out]))
    go_ret
    exact RetBl.mk HC.out ((((Bl.refl w).alloc _).alloc _).trans (hdr.below _))
  have HC := Lib.hid (show decide (us = vs) = decide (e = e2 ∧ id = id2 ∧ n = n2 ∧ more = more2 ∧ xs = ys ∧ us = vs) by simp [h0, h1, h2, h3, h4])
  have HQ := Lib.hid (decide_eq_true h4)
  clear h0 h1 h2 h3 h4
  go_enter Try.func28, Try.ntmps28
  go_wp2_with fail
  refine (by_equal A B c d xs ys _ hl (HX.out.bl (((Bl.refl w).alloc _).alloc _)) (HY.out.bl (((Bl.refl w).alloc _).alloc _))).mono ?_
  rintro e w1 ⟨rfl, n1, rfl⟩
  rw [HQ.out]
  go_wp2_with fail
  refine (sl_equal I J ci di us vs _ hlu (HU.out.bl ((((Bl.refl w).alloc _).alloc _).drewN n1)) (HV.out.bl ((((Bl.refl w).alloc _).alloc _).drewN n1))).mono ?_
  rintro e w2 ⟨rfl, n2, rfl⟩
  go_wp2_with fail
  go_ret
  exact RetBl.mk HC.out ((((Bl.refl w).alloc _).alloc _).drewN (n1 + n2))
theorem ref_ansSame (e id n e2 id2 n2 : Int) (more more2 : Bool) (A B I J : Option Addr) (c d ci di : Nat) (xs ys : List UInt8) (us vs : List Nat) (w : World) (hl : xs.length ≤ 281474976710656) (hlu : us.length ≤ 281474976710656) (hx : Rd w A (xs.map bv)) (hy : Rd w B (ys.map bv)) (hu : Rd w I (us.map wv)) (hv : Rd w J (vs.map wv)) :
    Calls Try.prog 29 #[ansV e id n A xs.length c I us.length ci more, ansV e2 id2 n2 B ys.length d J vs.length di more2] w (RetBl (decide (e = e2 ∧ id = id2 ∧ n = n2 ∧ more = more2 ∧ xs = ys ∧ us = vs)) w) := by
  have HX := Lib.hid hx
  have HY := Lib.hid hy
  have HU := Lib.hid hu
  have HV := Lib.hid hv
  clear hx hy hu hv
  by_cases h0 : e = e2
  case neg =>
    have b0 : (e == e2) = false := by simpa using h0
    have HC := Lib.hid (show false = decide (e = e2 ∧ id = id2 ∧ n = n2 ∧ more = more2 ∧ xs = ys ∧ us = vs) by simp [h0])
    clear h0
    go_enter Try.func29, Try.ntmps29
    go_wp2_with fail
    go_ret
    exact RetBl.mk HC.out (((Bl.refl w).alloc _).alloc _)
  by_cases h1 : id = id2
  case neg =>
    have b0 : (e == e2) = true := by simpa using h0
    have b1 : (id == id2) = false := by simpa using h1
    have HC := Lib.hid (show false = decide (e = e2 ∧ id = id2 ∧ n = n2 ∧ more = more2 ∧ xs = ys ∧ us = vs) by simp [h1])
    clear h0 h1
    go_enter Try.func29, Try.ntmps29
    go_wp2_with fail
    go_ret
    exact RetBl.mk HC.out (((Bl.refl w).alloc _).alloc _)
  by_cases h2 : n = n2
  case neg =>
    have b0 : (e == e2) = true := by simpa using h0
    have b1 : (id == id2) = true := by simpa using h1
    have b2 : (n == n2) = false := by simpa using h2
    have HC := Lib.hid (show false = decide (e = e2 ∧ id = id2 ∧ n = n2 ∧ more = more2 ∧ xs = ys ∧ us = vs) by simp [h2])
    clear h0 h1 h2
    go_enter Try.func29, Try.ntmps29
    go_wp2_with fail
    go_ret
    exact RetBl.mk HC.out (((Bl.refl w).alloc _).alloc _)
  by_cases h3 : more = more2
  case neg =>
    have b0 : (e == e2) = true := by simpa using h0
    have b1 : (id == id2) = true := by simpa using h1
    have b2 : (n == n2) = true := by simpa using h2
    have b3 : (more == more2) = false := by simpa using h3
    have HC := Lib.hid (show false = decide (e = e2 ∧ id = id2 ∧ n = n2 ∧ more = more2 ∧ xs = ys ∧ us = vs) by simp [h3])
    clear h0 h1 h2 h3
    go_enter Try.func29, Try.ntmps29
    go_wp2_with fail
    go_ret
    exact RetBl.mk HC.out (((Bl.refl w).alloc _).alloc _)
  have b0 : (e == e2) = true := by simpa using h0
  have b1 : (id == id2) = true := by simpa using h1
  have b2 : (n == n2) = true := by simpa using h2
  have b3 : (more == more2) = true := by simpa using h3
  by_cases h4 : xs = ys
  case neg =>
    have HC := Lib.hid (show false = decide (e = e2 ∧ id = id2 ∧ n = n2 ∧ more = more2 ∧ xs = ys ∧ us = vs) by simp [h4])
    have HQ := Lib.hid (decide_eq_false h4)
    clear h0 h1 h2 h3 h4
    go_enter Try.func29, Try.ntmps29
    go_wp2_with (first | (go_at_call 19; go_must (refine (same_calls A B c d xs ys _ hl (HX.out.bl (((Bl.refl w).alloc _).alloc _)) (HY.out.bl (((Bl.refl w).alloc _).alloc _))).mono ?_); rintro e w1 ⟨rfl, hdr⟩; rw [HQ.out]))
    go_ret
    exact RetBl.mk HC.out ((((Bl.refl w).alloc _).alloc _).trans (hdr.below _))
  have HC := Lib.hid (show decide (us = vs) = decide (e = e2 ∧ id = id2 ∧ n = n2 ∧ more = more2 ∧ xs = ys ∧ us = vs) by simp [h0, h1, h2, h3, h4])
  have HQ := Lib.hid (decide_eq_true h4)
  clear h0 h1 h2 h3 h4
  go_enter Try.func29, Try.ntmps29
  go_wp2_with fail
  refine (same_calls A B c d xs ys _ hl (HX.out.bl (((Bl.refl w).alloc _).alloc _)) (HY.out.bl (((Bl.refl w).alloc _).alloc _))).mono ?_
  rintro e w1 ⟨rfl, n1, rfl⟩
  rw [HQ.out]
  go_wp2_with fail
  refine (words_calls I J ci di us vs _ hlu (HU.out.bl ((((Bl.refl w).alloc _).alloc _).drewN n1)) (HV.out.bl ((((Bl.refl w).alloc _).alloc _).drewN n1))).mono ?_
  rintro e w2 ⟨rfl, n2, rfl⟩
  go_wp2_with fail
  go_ret
  exact RetBl.mk HC.out ((((Bl.refl w).alloc _).alloc _).drewN (n1 + n2))
end Go.Proofs.Ytedmamchfgkkfaa
/- Layer 22 (deed) walked: slices.Grow and slices.Concat of rows of bytes. -/
namespace Go.Proofs.Ytedmamchfgkkfaa
open Go.RowKit
set_option maxRecDepth 100000
set_option maxHeartbeats 2000000

def RetOwn0 (w : World) (e : Ending) (w' : World) : Prop := ∃ v, e = .returned v ∧ App w' w.heap.size 5 1 v 0 [] ∧ Bl w w'
theorem grow_bytes (n : Nat) (w : World) (hn : n ≤ 281474976710656) :
    Calls Try.prog 96 #[.slice none 0 0, .int .i64 n] w (RetOwn0 w) := by
  rcases Nat.eq_zero_or_pos n with rfl | h0
  · go_enter Try.func96, Try.ntmps96
    go_wp2_with fail
    go_ret
    exact ⟨_, rfl, App.nil _ _ _ _, Bl.refl w⟩
  · go_enter Try.func96, Try.ntmps96
    go_wp2_with (first
      | (at_builtin; go_must (refine append_zeros rfl _ _ 24 3 5 (.int .u8 0) 1 1 rfl Try.underlying24 Try.underlying3 Try.infoU8 rfl (by decide) w.heap.size n h0 (by rfl) (by rfl) (by omega) (by omega) (Nat.le_refl _) ?_); intro w1 cap cs hown hbl hcap))
    go_ret
    exact ⟨_, rfl, by simpa using hown.cut 0 cap (Nat.zero_le _) (Nat.le_refl _) (Nat.zero_le _), hbl⟩

/-- A row of bytes as it lies in memory: where, its bytes, its room. -/
abbrev BRow := Option Addr × List UInt8 × Nat
def brv (r : BRow) : Value := .slice r.1 r.2.1.length r.2.2
def bsum (rs : List BRow) : List UInt8 := rs.flatMap (·.2.1)
theorem bsum_snoc (rs : List BRow) (r : BRow) : bsum (rs ++ [r]) = bsum rs ++ r.2.1 := by simp [bsum]
theorem bsum_take (rs : List BRow) (k : Nat) (r : BRow) (h : rs[k]? = some r) : bsum (rs.take (k + 1)) = bsum (rs.take k) ++ r.2.1 := by rw [List.take_add_one, h]; exact bsum_snoc _ _
theorem bsum_le (rs : List BRow) (k : Nat) : (bsum (rs.take k)).length ≤ (bsum rs).length := by
  have : bsum rs = bsum (rs.take k) ++ bsum (rs.drop k) := by unfold bsum; rw [← List.flatMap_append, List.take_append_drop]
  rw [this, List.length_append]; omega
theorem concat_rows (G : Option Addr) (c : Nat) (rs : List BRow) (w : World) (hk : rs.length ≤ 1000) (hs : (bsum rs).length ≤ 140737488355328) (hg : Rd w G (rs.map brv)) (hr : ∀ r ∈ rs, Rd w r.1 (r.2.1.map bv)) :
    Calls Try.prog 68 #[.slice G rs.length c] w (RetBytes (bsum rs) w) := by
  have HG := Lib.hid hg
  have HR := Lib.hid hr
  have HS := Lib.hid hs
  clear hg hr hs
  go_enter Try.func68, Try.ntmps68
  go_wp2_with fail
  go_loopw [3, 5, 11] (fun s _ i wr => ∃ k : Nat, k ≤ rs.length ∧ i = .int .i64 k ∧ s = .int .i64 ((bsum (rs.take k)).length : Nat) ∧ wr = w) (fun _ _ i _ => rs.length - (intOf i).toNat)
  case atStart => exact ⟨0, by omega, rfl, by simp [bsum], rfl⟩
  case round =>
    obtain ⟨k, hk2, rfl, rfl, hwr⟩ := hrel
    have hwr2 := hwr.symm
    clear hwr
    subst hwr2
    by_cases hlt : k < rs.length
    · obtain ⟨r, hr⟩ := get_some rs k hlt
      obtain ⟨b, o, rfl, hc⟩ := HG.out.get hr
      have HT := Lib.hid (bsum_take rs k r hr)
      have hle := bsum_le rs (k + 1)
      rw [HT.out, List.length_append] at hle
      have hs0 := HS.out
      clear hr
      simp only [brv] at hc
      go_wp2_with fail
      go_roundw
      case rel => exact ⟨k + 1, by omega, by go_num, by rw [HT.out, List.length_append]; go_num, trivial⟩
      case measure => simp [intOf]; omega
    · obtain rfl : k = rs.length := by omega
      rw [List.take_length]
      have hs0 := HS.out
      go_wp2_with fail
      refine (grow_bytes (bsum rs).length _ (by omega)).mono ?_
      rintro e w1 ⟨v1, rfl, hown1, hbl1⟩
      have HB1 := Lib.hid hbl1
      clear hbl1
      go_wp2_with fail
      go_loopw [6, 8, 27] (fun out _ i wq => ∃ k : Nat, k ≤ rs.length ∧ i = .int .i64 k ∧ App wq w.heap.size 5 1 out (bsum (rs.take k)).length ((bsum (rs.take k)).map bv) ∧ Hid (Bl w wq)) (fun _ _ i _ => rs.length - (intOf i).toNat)
      case atStart => exact ⟨0, by omega, rfl, by simpa [bsum] using hown1, HB1.out⟩
      case round =>
        obtain ⟨k, hk2, rfl, hown, HB⟩ := hrel
        by_cases hlt : k < rs.length
        · obtain ⟨r, hr⟩ := get_some rs k hlt
          obtain ⟨b, o, rfl, hc⟩ := (HG.out.bl HB.out).get hr
          have HT := Lib.hid (bsum_take rs k r hr)
          have hle := bsum_le rs (k + 1)
          rw [HT.out, List.length_append] at hle
          have HRR := Lib.hid ((HR.out r (List.mem_of_getElem? hr)).bl HB.out)
          have hsz := HB.out.size
          clear hr
          simp only [brv] at hc
          go_wp2_with (at_builtin; go_must (refine append_row rfl _ _ 24 5 (.int .u8 0) 1 1 rfl Try.underlying24 Try.infoU8 rfl (by decide) w.heap.size hown (by rfl) (by rfl) HRR.out (by simp) (bv_one _) (by omega) (by omega) hsz ?_); intro v5 w5 hown5 hgr5 hat5)
          go_roundw
          case rel => exact ⟨k + 1, by omega, by go_num, by rw [HT.out, List.length_append, List.map_append]; exact hown5, HB.out.grown hgr5 (fun q hq => hown.ge q hq)⟩
          case measure => simp [intOf]; omega
        · obtain rfl : k = rs.length := by omega
          rw [List.take_length] at hown
          go_wp2_with fail
          go_ret
          exact RetBytes.mk hown HB.out
end Go.Proofs.Ytedmamchfgkkfaa
/- Layer 18 (node) walked: slices.Clone, Grow and Concat of rows of texts and of ints (printed by gen_concat.py). -/
set_option linter.unusedVariables false
set_option linter.unusedSimpArgs false
namespace Go.Proofs.Ytedmamchfgkkfaa
open Go.RowKit
set_option maxRecDepth 100000
set_option maxHeartbeats 2000000

def RetI (xs : List Int) (w : World) (e : Ending) (w' : World) : Prop :=
  ∃ v, e = .returned v ∧ App w' w.heap.size 3 1 v xs.length (xs.map iv) ∧ Bl w w'
theorem RetI.mk {xs : List Int} {w w' : World} {v : Value} (h : App w' w.heap.size 3 1 v xs.length (xs.map iv)) (hb : Bl w w') : RetI xs w (.returned v) w' := ⟨v, rfl, h, hb⟩
def RetOwn0I (w : World) (e : Ending) (w' : World) : Prop := ∃ v, e = .returned v ∧ App w' w.heap.size 3 1 v 0 [] ∧ Bl w w'
theorem grow_I (n : Nat) (w : World) (hn : n ≤ 8796093022208) :
    Calls Try.prog 98 #[.slice none 0 0, .int .i64 n] w (RetOwn0I w) := by
  rcases Nat.eq_zero_or_pos n with rfl | h0
  · go_enter Try.func98, Try.ntmps98
    go_wp2_with fail
    go_ret
    exact ⟨_, rfl, App.nil _ _ _ _, Bl.refl w⟩
  · go_enter Try.func98, Try.ntmps98
    go_wp2_with (first
      | (at_builtin; go_must (refine append_zeros rfl _ _ 50 3 3 (.int .i64 0) 1 8 rfl Try.underlying50 Try.underlying3 Try.infoInt rfl (by decide) w.heap.size n h0 (by rfl) (by rfl) (by omega) (by omega) (Nat.le_refl _) ?_); intro w1 cap cs hown hbl hcap))
    go_ret
    exact ⟨_, rfl, by simpa using hown.cut 0 cap (Nat.zero_le _) (Nat.le_refl _) (Nat.zero_le _), hbl⟩

/-- A row of bytes as it lies in memory: where, its bytes, its room. -/
abbrev RowI := Option Addr × List Int × Nat
def rowvI (r : RowI) : Value := .slice r.1 r.2.1.length r.2.2
def sumI (rs : List RowI) : List Int := rs.flatMap (·.2.1)
theorem sumI_snoc (rs : List RowI) (r : RowI) : sumI (rs ++ [r]) = sumI rs ++ r.2.1 := by simp [sumI]
theorem sumI_take (rs : List RowI) (k : Nat) (r : RowI) (h : rs[k]? = some r) : sumI (rs.take (k + 1)) = sumI (rs.take k) ++ r.2.1 := by rw [List.take_add_one, h]; exact sumI_snoc _ _
theorem sumI_le (rs : List RowI) (k : Nat) : (sumI (rs.take k)).length ≤ (sumI rs).length := by
  have : sumI rs = sumI (rs.take k) ++ sumI (rs.drop k) := by unfold sumI; rw [← List.flatMap_append, List.take_append_drop]
  rw [this, List.length_append]; omega
theorem concat_I (G : Option Addr) (c : Nat) (rs : List RowI) (w : World) (hk : rs.length ≤ 1000) (hs : (sumI rs).length ≤ 8796093022208) (hg : Rd w G (rs.map rowvI)) (hr : ∀ r ∈ rs, Rd w r.1 (r.2.1.map iv)) :
    Calls Try.prog 91 #[.slice G rs.length c] w (RetI (sumI rs) w) := by
  have HG := Lib.hid hg
  have HR := Lib.hid hr
  have HS := Lib.hid hs
  clear hg hr hs
  go_enter Try.func91, Try.ntmps91
  go_wp2_with fail
  go_loopw [3, 5, 11] (fun s _ i wr => ∃ k : Nat, k ≤ rs.length ∧ i = .int .i64 k ∧ s = .int .i64 ((sumI (rs.take k)).length : Nat) ∧ wr = w) (fun _ _ i _ => rs.length - (intOf i).toNat)
  case atStart => exact ⟨0, by omega, rfl, by simp [sumI], rfl⟩
  case round =>
    obtain ⟨k, hk2, rfl, rfl, hwr⟩ := hrel
    have hwr2 := hwr.symm
    clear hwr
    subst hwr2
    by_cases hlt : k < rs.length
    · obtain ⟨r, hr⟩ := get_some rs k hlt
      obtain ⟨b, o, rfl, hc⟩ := HG.out.get hr
      have HT := Lib.hid (sumI_take rs k r hr)
      have hle := sumI_le rs (k + 1)
      rw [HT.out, List.length_append] at hle
      have hs0 := HS.out
      clear hr
      simp only [rowvI] at hc
      go_wp2_with fail
      go_roundw
      case rel => exact ⟨k + 1, by omega, by go_num, by rw [HT.out, List.length_append]; go_num, trivial⟩
      case measure => simp [intOf]; omega
    · obtain rfl : k = rs.length := by omega
      rw [List.take_length]
      have hs0 := HS.out
      go_wp2_with fail
      refine (grow_I (sumI rs).length _ (by omega)).mono ?_
      rintro e w1 ⟨v1, rfl, hown1, hbl1⟩
      have HB1 := Lib.hid hbl1
      clear hbl1
      go_wp2_with fail
      go_loopw [6, 8, 27] (fun out _ i wq => ∃ k : Nat, k ≤ rs.length ∧ i = .int .i64 k ∧ App wq w.heap.size 3 1 out (sumI (rs.take k)).length ((sumI (rs.take k)).map iv) ∧ Hid (Bl w wq)) (fun _ _ i _ => rs.length - (intOf i).toNat)
      case atStart => exact ⟨0, by omega, rfl, by simpa [sumI] using hown1, HB1.out⟩
      case round =>
        obtain ⟨k, hk2, rfl, hown, HB⟩ := hrel
        by_cases hlt : k < rs.length
        · obtain ⟨r, hr⟩ := get_some rs k hlt
          obtain ⟨b, o, rfl, hc⟩ := (HG.out.bl HB.out).get hr
          have HT := Lib.hid (sumI_take rs k r hr)
          have hle := sumI_le rs (k + 1)
          rw [HT.out, List.length_append] at hle
          have HRR := Lib.hid ((HR.out r (List.mem_of_getElem? hr)).bl HB.out)
          have hsz := HB.out.size
          clear hr
          simp only [rowvI] at hc
          go_wp2_with (at_builtin; go_must (refine append_row rfl _ _ 50 3 (.int .i64 0) 1 8 rfl Try.underlying50 Try.infoInt rfl (by decide) w.heap.size hown (by rfl) (by rfl) HRR.out (by simp) (iv_one _) (by omega) (by omega) hsz ?_); intro v5 w5 hown5 hgr5 hat5)
          go_roundw
          case rel => exact ⟨k + 1, by omega, by go_num, by rw [HT.out, List.length_append, List.map_append]; exact hown5, HB.out.grown hgr5 (fun q hq => hown.ge q hq)⟩
          case measure => simp [intOf]; omega
        · obtain rfl : k = rs.length := by omega
          rw [List.take_length] at hown
          go_wp2_with fail
          go_ret
          exact RetI.mk hown HB.out
def RetS (xs : List ByteArray) (w : World) (e : Ending) (w' : World) : Prop :=
  ∃ v, e = .returned v ∧ App w' w.heap.size 9 1 v xs.length (xs.map sv) ∧ Bl w w'
theorem RetS.mk {xs : List ByteArray} {w w' : World} {v : Value} (h : App w' w.heap.size 9 1 v xs.length (xs.map sv)) (hb : Bl w w') : RetS xs w (.returned v) w' := ⟨v, rfl, h, hb⟩
def RetOwn0S (w : World) (e : Ending) (w' : World) : Prop := ∃ v, e = .returned v ∧ App w' w.heap.size 9 1 v 0 [] ∧ Bl w w'
theorem grow_S (n : Nat) (w : World) (hn : n ≤ 8796093022208) :
    Calls Try.prog 99 #[.slice none 0 0, .int .i64 n] w (RetOwn0S w) := by
  rcases Nat.eq_zero_or_pos n with rfl | h0
  · go_enter Try.func99, Try.ntmps99
    go_wp2_with fail
    go_ret
    exact ⟨_, rfl, App.nil _ _ _ _, Bl.refl w⟩
  · go_enter Try.func99, Try.ntmps99
    go_wp2_with (first
      | (at_builtin; go_must (refine append_zeros rfl _ _ 49 3 9 (.string .empty) 1 16 rfl Try.underlying49 Try.underlying3 Try.infoStr rfl (by decide) w.heap.size n h0 (by rfl) (by rfl) (by omega) (by omega) (Nat.le_refl _) ?_); intro w1 cap cs hown hbl hcap))
    go_ret
    exact ⟨_, rfl, by simpa using hown.cut 0 cap (Nat.zero_le _) (Nat.le_refl _) (Nat.zero_le _), hbl⟩

/-- A row of bytes as it lies in memory: where, its bytes, its room. -/
abbrev RowS := Option Addr × List ByteArray × Nat
def rowvS (r : RowS) : Value := .slice r.1 r.2.1.length r.2.2
def sumS (rs : List RowS) : List ByteArray := rs.flatMap (·.2.1)
theorem sumS_snoc (rs : List RowS) (r : RowS) : sumS (rs ++ [r]) = sumS rs ++ r.2.1 := by simp [sumS]
theorem sumS_take (rs : List RowS) (k : Nat) (r : RowS) (h : rs[k]? = some r) : sumS (rs.take (k + 1)) = sumS (rs.take k) ++ r.2.1 := by rw [List.take_add_one, h]; exact sumS_snoc _ _
theorem sumS_le (rs : List RowS) (k : Nat) : (sumS (rs.take k)).length ≤ (sumS rs).length := by
  have : sumS rs = sumS (rs.take k) ++ sumS (rs.drop k) := by unfold sumS; rw [← List.flatMap_append, List.take_append_drop]
  rw [this, List.length_append]; omega
theorem concat_S (G : Option Addr) (c : Nat) (rs : List RowS) (w : World) (hk : rs.length ≤ 1000) (hs : (sumS rs).length ≤ 8796093022208) (hg : Rd w G (rs.map rowvS)) (hr : ∀ r ∈ rs, Rd w r.1 (r.2.1.map sv)) :
    Calls Try.prog 92 #[.slice G rs.length c] w (RetS (sumS rs) w) := by
  have HG := Lib.hid hg
  have HR := Lib.hid hr
  have HS := Lib.hid hs
  clear hg hr hs
  go_enter Try.func92, Try.ntmps92
  go_wp2_with fail
  go_loopw [3, 5, 11] (fun s _ i wr => ∃ k : Nat, k ≤ rs.length ∧ i = .int .i64 k ∧ s = .int .i64 ((sumS (rs.take k)).length : Nat) ∧ wr = w) (fun _ _ i _ => rs.length - (intOf i).toNat)
  case atStart => exact ⟨0, by omega, rfl, by simp [sumS], rfl⟩
  case round =>
    obtain ⟨k, hk2, rfl, rfl, hwr⟩ := hrel
    have hwr2 := hwr.symm
    clear hwr
    subst hwr2
    by_cases hlt : k < rs.length
    · obtain ⟨r, hr⟩ := get_some rs k hlt
      obtain ⟨b, o, rfl, hc⟩ := HG.out.get hr
      have HT := Lib.hid (sumS_take rs k r hr)
      have hle := sumS_le rs (k + 1)
      rw [HT.out, List.length_append] at hle
      have hs0 := HS.out
      clear hr
      simp only [rowvS] at hc
      go_wp2_with fail
      go_roundw
      case rel => exact ⟨k + 1, by omega, by go_num, by rw [HT.out, List.length_append]; go_num, trivial⟩
      case measure => simp [intOf]; omega
    · obtain rfl : k = rs.length := by omega
      rw [List.take_length]
      have hs0 := HS.out
      go_wp2_with fail
      refine (grow_S (sumS rs).length _ (by omega)).mono ?_
      rintro e w1 ⟨v1, rfl, hown1, hbl1⟩
      have HB1 := Lib.hid hbl1
      clear hbl1
      go_wp2_with fail
      go_loopw [6, 8, 27] (fun out _ i wq => ∃ k : Nat, k ≤ rs.length ∧ i = .int .i64 k ∧ App wq w.heap.size 9 1 out (sumS (rs.take k)).length ((sumS (rs.take k)).map sv) ∧ Hid (Bl w wq)) (fun _ _ i _ => rs.length - (intOf i).toNat)
      case atStart => exact ⟨0, by omega, rfl, by simpa [sumS] using hown1, HB1.out⟩
      case round =>
        obtain ⟨k, hk2, rfl, hown, HB⟩ := hrel
        by_cases hlt : k < rs.length
        · obtain ⟨r, hr⟩ := get_some rs k hlt
          obtain ⟨b, o, rfl, hc⟩ := (HG.out.bl HB.out).get hr
          have HT := Lib.hid (sumS_take rs k r hr)
          have hle := sumS_le rs (k + 1)
          rw [HT.out, List.length_append] at hle
          have HRR := Lib.hid ((HR.out r (List.mem_of_getElem? hr)).bl HB.out)
          have hsz := HB.out.size
          clear hr
          simp only [rowvS] at hc
          go_wp2_with (at_builtin; go_must (refine append_row rfl _ _ 49 9 (.string .empty) 1 16 rfl Try.underlying49 Try.infoStr rfl (by decide) w.heap.size hown (by rfl) (by rfl) HRR.out (by simp) (sv_one _) (by omega) (by omega) hsz ?_); intro v5 w5 hown5 hgr5 hat5)
          go_roundw
          case rel => exact ⟨k + 1, by omega, by go_num, by rw [HT.out, List.length_append, List.map_append]; exact hown5, HB.out.grown hgr5 (fun q hq => hown.ge q hq)⟩
          case measure => simp [intOf]; omega
        · obtain rfl : k = rs.length := by omega
          rw [List.take_length] at hown
          go_wp2_with fail
          go_ret
          exact RetS.mk hown HB.out
end Go.Proofs.Ytedmamchfgkkfaa
/- Layer 18 (node): a node's variable, a result's variable, and slices of the call's own that are appended to. -/
set_option linter.unusedVariables false
set_option linter.unusedSimpArgs false
namespace Go.Proofs.Ytedmamchfgkkfaa
open Go.RowKit
set_option maxRecDepth 100000

structure JSt (w0 : World) (k : Int) (gR gN base : Nat) (w : World) (ks vs : List ByteArray) (is : List Int) (K V I : Value) : Prop where
  oR : Ob w gR 52 #[.int .u8 0, .slice none 0 0, .slice none 0 0, .slice none 0 0]
  oN : Ob w gN 52 #[.int .u8 k, K, V, I]
  aK : App w base 9 1 K ks.length (ks.map sv)
  aV : App w base 9 1 V vs.length (vs.map sv)
  aI : App w base 3 1 I is.length (is.map iv)
  wb : Bl w0 w
  ord : w0.heap.size ≤ gR ∧ w0.heap.size ≤ gN ∧ w0.heap.size ≤ base ∧ base ≤ w.heap.size ∧ gR ≠ gN
  ap : K.ownBlock = none ∨ K.ownBlock ≠ V.ownBlock
theorem JSt.bl {w0 : World} {k : Int} {gR gN base : Nat} {w w' : World} {ks vs : List ByteArray} {is : List Int} {K V I : Value} (h : JSt w0 k gR gN base w ks vs is K V I) (hb : Bl w w') : JSt w0 k gR gN base w' ks vs is K V I :=
  ⟨h.oR.bl hb, h.oN.bl hb, h.aK.bl hb, h.aV.bl hb, h.aI.bl hb, h.wb.trans hb, ⟨h.ord.1, h.ord.2.1, h.ord.2.2.1, Nat.le_trans h.ord.2.2.2.1 hb.size, h.ord.2.2.2.2⟩, h.ap⟩
theorem JSt.grow {w0 : World} {k : Int} {gR gN base : Nat} {w w' : World} {ks vs : List ByteArray} {is : List Int} {K V I X : Value} {T : TypeId} {n : Nat} {cs : List Value} (h : JSt w0 k gR gN base w ks vs is K V I) (hX : App w base T 1 X n cs) (hT : 52 ≠ T) (hg : w.grownBy w' X.ownBlock) (i : Nat) (u : Value) :
    Ob (w'.setCell ⟨gN, i, none⟩ u) gR 52 #[.int .u8 0, .slice none 0 0, .slice none 0 0, .slice none 0 0] ∧ Ob w' gN 52 #[.int .u8 k, K, V, I] ∧ Bl w0 (w'.setCell ⟨gN, i, none⟩ u) ∧
    (w0.heap.size ≤ gR ∧ w0.heap.size ≤ gN ∧ w0.heap.size ≤ base ∧ base ≤ (w'.setCell ⟨gN, i, none⟩ u).heap.size ∧ gR ≠ gN) ∧
    (∀ {T' : TypeId} {v : Value} {m : Nat} {cs : List Value}, App w base T' 1 v m cs → 52 ≠ T' → (v.ownBlock = none ∨ v.ownBlock ≠ X.ownBlock) → App (w'.setCell ⟨gN, i, none⟩ u) base T' 1 v m cs) := by
  obtain ⟨h1, h2, h3, h4, h5⟩ := h.ord
  have hch := Ch.grown hg
  have nin : ∀ {g : Nat} {C : Array Value}, Ob w g 52 C → g ∉ X.ownBlock.toList := fun ho hm => by
    simp at hm
    exact ho.app hX hT hm
  have hp := Ch.put w' gN i u
  have hN := h.oN.ch hch (nin h.oN)
  refine ⟨(h.oR.ch hch (nin h.oR)).ch hp (by simpa using h5), hN, (h.wb.grown hg (fun q hq => Nat.le_trans h3 (hX.ge q hq))).setCell h2 u, ⟨h1, h2, h3, Nat.le_trans h4 (Nat.le_trans hch.size hp.size), h5⟩, ?_⟩
  intro T' v m cs ha hT' hne
  have hk := ha.kept hg hne
  exact hk.ch hp (fun g hm => by simp at hm; subst hm; exact hN.app hk hT')
theorem JSt.keys {w0 : World} {k : Int} {gR gN base : Nat} {w w' : World} {ks vs xs : List ByteArray} {is : List Int} {K V I K' : Value} {n : Nat} (h : JSt w0 k gR gN base w ks vs is K V I) (hn : n = xs.length)
    (ha : App w' base 9 1 K' (ks.length + n) (ks.map sv ++ xs.map sv)) (hg : w.grownBy w' K.ownBlock) (hat : K'.ownBlock = K.ownBlock ∨ ∃ b, K'.ownBlock = some b ∧ w.heap.size ≤ b) : JSt w0 k gR gN base (w'.setCell ⟨gN, 1, none⟩ K') (ks ++ xs) vs is K' V I := by
  subst hn
  obtain ⟨r2, r3, rb, r4, r5⟩ := h.grow h.aK (by decide) hg 1 K'
  refine ⟨r2, by have := r3.set 1 K'; simpa using this, ?_, r5 h.aV (by decide) (ne_swap h.ap), r5 h.aI (by decide) (ne_swap (app_ne h.aK h.aI (by decide))), rb, r4, ?_⟩
  · have := ha.ch (Ch.put w' gN 1 K') (fun g hm => by simp at hm; subst hm; exact r3.app ha (by decide))
    simpa using this
  · rcases hat with e1 | ⟨bb, e1, hbb⟩
    · rw [e1]; exact h.ap
    · right; rw [e1]; intro e2; have := (h.aV.lt _ e2.symm).2; omega
theorem JSt.vals {w0 : World} {k : Int} {gR gN base : Nat} {w w' : World} {ks vs xs : List ByteArray} {is : List Int} {K V I V' : Value} {n : Nat} (h : JSt w0 k gR gN base w ks vs is K V I) (hn : n = xs.length)
    (ha : App w' base 9 1 V' (vs.length + n) (vs.map sv ++ xs.map sv)) (hg : w.grownBy w' V.ownBlock) (hat : V'.ownBlock = V.ownBlock ∨ ∃ b, V'.ownBlock = some b ∧ w.heap.size ≤ b) : JSt w0 k gR gN base (w'.setCell ⟨gN, 2, none⟩ V') ks (vs ++ xs) is K V' I := by
  subst hn
  obtain ⟨r2, r3, rb, r4, r5⟩ := h.grow h.aV (by decide) hg 2 V'
  refine ⟨r2, by have := r3.set 2 V'; simpa using this, r5 h.aK (by decide) h.ap, ?_, r5 h.aI (by decide) (ne_swap (app_ne h.aV h.aI (by decide))), rb, r4, ?_⟩
  · have := ha.ch (Ch.put w' gN 2 V') (fun g hm => by simp at hm; subst hm; exact r3.app ha (by decide))
    simpa using this
  · rcases hat with e1 | ⟨bb, e1, hbb⟩
    · rw [e1]; exact h.ap
    · rcases hk : K.ownBlock with _ | g
      · exact .inl rfl
      · right; rw [e1]; intro e2; simp at e2; have := (h.aK.lt g hk).2; omega
theorem JSt.kids {w0 : World} {k : Int} {gR gN base : Nat} {w w' : World} {ks vs : List ByteArray} {is xs : List Int} {K V I I' : Value} {n : Nat} (h : JSt w0 k gR gN base w ks vs is K V I) (hn : n = xs.length)
    (ha : App w' base 3 1 I' (is.length + n) (is.map iv ++ xs.map iv)) (hg : w.grownBy w' I.ownBlock) : JSt w0 k gR gN base (w'.setCell ⟨gN, 3, none⟩ I') ks vs (is ++ xs) K V I' := by
  subst hn
  obtain ⟨r2, r3, rb, r4, r5⟩ := h.grow h.aI (by decide) hg 3 I'
  refine ⟨r2, by have := r3.set 3 I'; simpa using this, r5 h.aK (by decide) (app_ne h.aK h.aI (by decide)), r5 h.aV (by decide) (app_ne h.aV h.aI (by decide)), ?_, rb, r4, h.ap⟩
  have := ha.ch (Ch.put w' gN 3 I') (fun g hm => by simp at hm; subst hm; exact r3.app ha (by decide))
  simpa using this
end Go.Proofs.Ytedmamchfgkkfaa
/- Memory in parts: a list of chunks, each with blocks of its own; what is not listed stays. No program in sight. -/
set_option linter.unusedVariables false
set_option linter.unusedSimpArgs false
namespace Go.Proofs.Ytedmamchfgkkfaa
open Go.RowKit
universe u

/-- A part of memory: which blocks it has, and what they hold. -/
structure Chunk where
  holds : World → (Nat → Prop) → Prop
  loc : ∀ {w w' : World} {S : Nat → Prop}, holds w S → (∀ b, S b → w'.heap[b]? = w.heap[b]?) → holds w' S
  lt : ∀ {w : World} {S : Nat → Prop} {b : Nat}, holds w S → S b → b < w.heap.size

def seps : List Chunk → World → (Nat → Prop) → Prop
  | [], _, _ => True
  | A :: cs, w, S => ∃ S1 S2 : Nat → Prop, (∀ b, S1 b → S b) ∧ (∀ b, S2 b → S b) ∧ (∀ b, S1 b → S2 b → False) ∧ A.holds w S1 ∧ seps cs w S2

theorem seps_loc : ∀ {cs : List Chunk} {w w' : World} {S : Nat → Prop}, seps cs w S → (∀ b, S b → w'.heap[b]? = w.heap[b]?) → seps cs w' S
  | [], _, _, _, _, _ => trivial
  | A :: cs, w, w', S, ⟨S1, S2, h1, h2, h3, h4, h5⟩, hk => ⟨S1, S2, h1, h2, h3, A.loc h4 (fun b hb => hk b (h1 b hb)), seps_loc h5 (fun b hb => hk b (h2 b hb))⟩
theorem seps_mono : ∀ {cs : List Chunk} {w : World} {S S' : Nat → Prop}, seps cs w S → (∀ b, S b → S' b) → seps cs w S'
  | [], _, _, _, _, _ => trivial
  | _ :: _, _, _, _, ⟨S1, S2, h1, h2, h3, h4, h5⟩, hk => ⟨S1, S2, fun b hb => hk b (h1 b hb), fun b hb => hk b (h2 b hb), h3, h4, h5⟩
/-- Only blocks that are there are had. -/
theorem seps_lt : ∀ {cs : List Chunk} {w : World} {S : Nat → Prop}, seps cs w S → seps cs w (fun b => S b ∧ b < w.heap.size)
  | [], _, _, _ => trivial
  | A :: cs, w, S, ⟨S1, S2, h1, h2, h3, h4, h5⟩ => ⟨S1, fun b => S2 b ∧ b < w.heap.size, fun b hb => ⟨h1 b hb, A.lt h4 hb⟩, fun b hb => ⟨h2 b hb.1, hb.2⟩, fun b x y => h3 b x y.1, h4, seps_lt h5⟩

/-- The memory of a call: the parts, and what stays of the world. -/
structure Mem (w0 : World) (cs : List Chunk) (w : World) : Prop where
  os : w.os = w0.os
  tape : w.tape = w0.tape
  output : w.output = w0.output
  parts : seps cs w (fun _ => True)

section
variable {w0 w w' : World} {cs ds : List Chunk} {A B : Chunk} {S : Nat → Prop}
/-- The first part becomes another one. -/
theorem seps_swap : seps (A :: B :: cs) w S → seps (B :: A :: cs) w S := fun ⟨S1, S2, h1, h2, h3, h4, S3, S4, k1, k2, k3, k4, k5⟩ =>
  ⟨S3, fun b => S1 b ∨ S4 b, fun b hb => h2 b (k1 b hb), fun b hb => hb.elim (h1 b) (fun h => h2 b (k2 b h)), fun b x y => y.elim (fun y => h3 b y (k1 b x)) (k3 b x), k4,
    S1, S4, fun b h => .inl h, fun b h => .inr h, fun b x y => h3 b x (k2 b y), h4, k5⟩
theorem seps_cons (k : ∀ {w : World} {S : Nat → Prop}, seps cs w S → seps ds w S) (h : seps (A :: cs) w S) : seps (A :: ds) w S := by
  obtain ⟨S1, S2, h1, h2, h3, h4, h5⟩ := h
  exact ⟨S1, S2, h1, h2, h3, h4, k h5⟩
theorem Mem.map (h : Mem w0 cs w) (k : ∀ {w : World} {S : Nat → Prop}, seps cs w S → seps ds w S) : Mem w0 ds w := ⟨h.os, h.tape, h.output, k h.parts⟩
theorem seps_perm {l m : List Chunk} (h : l.Perm m) : ∀ {w : World} {S : Nat → Prop}, seps l w S → seps m w S := by
  induction h with
  | nil => exact fun h => h
  | cons x _ ih => exact fun h => seps_cons ih h
  | swap x y l => exact fun h => seps_swap h
  | trans _ _ ih1 ih2 => exact fun h => ih2 (ih1 h)
theorem Mem.perm (h : Mem w0 cs w) (k : cs.Perm ds) : Mem w0 ds w := h.map (seps_perm k)
/-- Parts are let go. -/
theorem seps_drop : seps (A :: cs) w S → seps cs w S := fun ⟨_, _, _, h2, _, _, h5⟩ => seps_mono h5 h2
theorem Mem.drop (h : Mem w0 (A :: cs) w) : Mem w0 cs w := h.map seps_drop
theorem seps_sub {l m : List Chunk} (h : l.Sublist m) : ∀ {w : World} {S : Nat → Prop}, seps m w S → seps l w S := by
  induction h with
  | slnil => exact fun h => h
  | cons x _ ih => exact fun h => ih (seps_drop h)
  | cons_cons x _ ih => exact fun h => seps_cons ih h
theorem Mem.sub (h : Mem w0 cs w) (k : ds.Sublist cs) : Mem w0 ds w := h.map (seps_sub k)
/-- The k-th part is brought to the front. -/
def bring (k : Nat) (cs : List Chunk) : List Chunk := match cs[k]? with | some c => c :: cs.eraseIdx k | none => cs
theorem bring_perm : ∀ (k : Nat) (cs : List Chunk), cs.Perm (bring k cs)
  | k, [] => by simp [bring]
  | 0, c :: cs => by simp [bring]
  | k + 1, c :: cs => by
    have ih := bring_perm k cs
    unfold bring at ih ⊢
    simp only [List.getElem?_cons_succ, List.eraseIdx_cons_succ]
    split
    · rename_i d hd
      rw [hd] at ih
      exact (List.Perm.cons c ih).trans (List.Perm.swap d c _)
    · exact List.Perm.refl _
theorem Mem.bring (h : Mem w0 cs w) (k : Nat) : Mem w0 (bring k cs) w := h.perm (bring_perm k cs)
/-- Nothing of what was there has changed. -/
theorem Mem.bl (h : Mem w0 cs w) (k : Bl w w') : Mem w0 cs w' :=
  ⟨k.os.trans h.os, k.tape.trans h.tape, k.output.trans h.output, seps_mono (seps_loc (seps_lt h.parts) (fun b hb => k.block b hb.2)) (fun _ _ => trivial)⟩
theorem Mem.drew (h : Mem w0 cs w) : Mem w0 cs w.drew := h.bl (Bl.refl w).drew
theorem Mem.drewN (h : Mem w0 cs w) (n : Nat) : Mem w0 cs (w.drewN n) := h.bl ((Bl.refl w).drewN n)

/-- One block, known whole. -/
def blkO (g : Nat) (o : Obj) : Chunk where
  holds w S := (∀ b, S b ↔ b = g) ∧ w.heap[g]? = some o
  loc h k := ⟨h.1, (k g ((h.1 g).2 rfl)).trans h.2⟩
  lt h hb := by rw [(h.1 _).1 hb]; exact heap_lt h.2
abbrev blk (g : Nat) (T : TypeId) (cs : Array Value) : Chunk := blkO g (.cells cs T (0, 0))
/-- What was there at the beginning. -/
def old (v : World) : Chunk where
  holds w S := (∀ b, S b ↔ b < v.heap.size) ∧ v.heap.size ≤ w.heap.size ∧ ∀ b, b < v.heap.size → w.heap[b]? = v.heap[b]?
  loc {w w' S} h k := by
    refine ⟨h.1, ?_, fun b hb => (k b ((h.1 b).2 hb)).trans (h.2.2 b hb)⟩
    rcases Nat.eq_zero_or_pos v.heap.size with h0 | h0
    · omega
    · have h1 := k (v.heap.size - 1) ((h.1 _).2 (by omega))
      have h2 := h.2.2 (v.heap.size - 1) (by omega)
      rw [h2] at h1
      have h3 : v.heap.size - 1 < w'.heap.size := by
        rcases Nat.lt_or_ge (v.heap.size - 1) w'.heap.size with h | h
        · exact h
        · rw [Array.getElem?_eq_none h, Array.getElem?_eq_getElem (show v.heap.size - 1 < v.heap.size by omega)] at h1; cases h1
      omega
  lt h hb := by have := (h.1 _).1 hb; have := h.2.1; omega
theorem Mem.start (w : World) : Mem w [old w] w := ⟨rfl, rfl, rfl, fun b => b < w.heap.size, fun _ => False, fun _ _ => trivial, fun _ _ => trivial, fun _ _ h => h, ⟨fun _ => Iff.rfl, Nat.le_refl _, fun _ _ => rfl⟩, trivial⟩
theorem Mem.toBl (h : Mem w0 (old w0 :: cs) w) : Bl w0 w := by
  obtain ⟨_, _, _, _, _, h4, _⟩ := h.parts
  exact ⟨h.os, h.tape, h.output, h4.2.1, fun k hk => h4.2.2 k hk⟩
theorem Mem.toBlAt {v : World} (h : Mem w0 cs w) (k : Nat) (hk : cs[k]? = some (old v)) (ho : v.os = w0.os) (ht : v.tape = w0.tape) (hp : v.output = w0.output) : Bl v w := by
  have h2 := h.bring k
  unfold Go.Proofs.Ytedmamchfgkkfaa.bring at h2
  rw [hk] at h2
  obtain ⟨_, _, _, _, _, h4, _⟩ := h2.parts
  exact ⟨h.os.trans ho.symm, h.tape.trans ht.symm, h.output.trans hp.symm, h4.2.1, fun k hk => h4.2.2 k hk⟩

/-- A part is taken at its place. -/
theorem seps_at : ∀ {cs : List Chunk} {k : Nat} {A : Chunk} {w : World} {S : Nat → Prop}, seps cs w S → cs[k]? = some A → ∃ S1, A.holds w S1
  | _ :: _, 0, A, w, S, ⟨S1, _, _, _, _, h4, _⟩, hk => by simp at hk; subst hk; exact ⟨S1, h4⟩
  | _ :: cs, k + 1, A, w, S, ⟨_, _, _, _, _, _, h5⟩, hk => seps_at h5 (by simpa using hk)
theorem Mem.at (h : Mem w0 cs w) (k : Nat) {A : Chunk} (hk : cs[k]? = some A) : ∃ S, A.holds w S := seps_at h.parts hk
theorem Mem.blkO (h : Mem w0 cs w) (k : Nat) {g : Nat} {o : Obj} (hk : cs[k]? = some (blkO g o)) : w.heap[g]? = some o := by
  obtain ⟨S, _, h2⟩ := h.at k hk
  exact h2
theorem Mem.ob (h : Mem w0 cs w) (k : Nat) {g : Nat} {T : TypeId} {xs : Array Value} (hk : cs[k]? = some (blk g T xs)) : Ob w g T xs := h.blkO k hk
/-- A part changes: only its own blocks, and new ones, are written. -/
theorem seps_set : ∀ {cs : List Chunk} {k : Nat} {A : Chunk} {w : World} {S : Nat → Prop}, seps cs w S → cs[k]? = some A → (∀ b, S b → b < w.heap.size) →
    ∃ S1, A.holds w S1 ∧ (∀ b, S1 b → S b) ∧ ∀ (B : Chunk) (w' : World) (S' : Nat → Prop), B.holds w' S' → (∀ b, S' b → S1 b ∨ w.heap.size ≤ b) → (∀ b, b < w.heap.size → ¬ S1 b → w'.heap[b]? = w.heap[b]?) → seps (cs.set k B) w' (fun b => S b ∨ w.heap.size ≤ b)
  | A :: cs, 0, A', w, S, ⟨S1, S2, h1, h2, h3, h4, h5⟩, hk, hS => by
    simp at hk
    subst hk
    refine ⟨S1, h4, h1, fun B w' S' hB hS' hw => ⟨S', S2, fun b hb => (hS' b hb).imp (h1 b) id, fun b hb => .inl (h2 b hb), fun b x y => ?_, hB, seps_loc h5 (fun b hb => hw b (hS b (h2 b hb)) (fun h => h3 b h hb))⟩⟩
    rcases hS' b x with h | h
    · exact h3 b h y
    · have := hS b (h2 b y); omega
  | A :: cs, k + 1, A', w, S, ⟨S1, S2, h1, h2, h3, h4, h5⟩, hk, hS => by
    obtain ⟨S3, g1, g2, g3⟩ := seps_set h5 (by simpa using hk : cs[k]? = some A') (fun b hb => hS b (h2 b hb))
    refine ⟨S3, g1, fun b hb => h2 b (g2 b hb), fun B w' S' hB hS' hw => ⟨S1, fun b => S2 b ∨ w.heap.size ≤ b, fun b hb => .inl (h1 b hb), fun b hb => hb.imp (h2 b) id, fun b x y => ?_, ?_, g3 B w' S' hB hS' hw⟩⟩
    · rcases y with y | y
      · exact h3 b x y
      · have := hS b (h1 b x); omega
    · exact A.loc h4 (fun b hb => hw b (hS b (h1 b hb)) (fun h => h3 b hb (g2 b h)))
theorem Mem.set (h : Mem w0 cs w) (k : Nat) {A : Chunk} (hk : cs[k]? = some A) :
    ∃ S1, A.holds w S1 ∧ ∀ (B : Chunk) (w' : World) (S' : Nat → Prop), B.holds w' S' → (∀ b, S' b → S1 b ∨ w.heap.size ≤ b) → (∀ b, b < w.heap.size → ¬ S1 b → w'.heap[b]? = w.heap[b]?) → w'.os = w.os → w'.tape = w.tape → w'.output = w.output → Mem w0 (cs.set k B) w' := by
  obtain ⟨S1, h1, _, h2⟩ := seps_set (seps_lt h.parts) hk (fun b hb => hb.2)
  exact ⟨S1, h1, fun B w' S' hB hS hw e1 e2 e3 => ⟨e1.trans h.os, e2.trans h.tape, e3.trans h.output, seps_mono (h2 B w' S' hB hS hw) (fun _ _ => trivial)⟩⟩
/-- A part more: of new blocks. -/
theorem Mem.new (h : Mem w0 cs w) (k : Bl w w') {B : Chunk} {S : Nat → Prop} (hB : B.holds w' S) (hS : ∀ b, S b → w.heap.size ≤ b) : Mem w0 (B :: cs) w' := by
  refine ⟨k.os.trans h.os, k.tape.trans h.tape, k.output.trans h.output, S, fun b => b < w.heap.size, fun _ _ => trivial, fun _ _ => trivial, fun b x y => ?_, hB, ?_⟩
  · have := hS b x; omega
  · exact seps_mono (seps_loc (seps_lt h.parts) (fun b hb => k.block b hb.2)) (fun b hb => hb.2)
theorem Mem.alloc (h : Mem w0 cs w) (o : Obj) : Mem w0 (Go.Proofs.Ytedmamchfgkkfaa.blkO w.heap.size o :: cs) (w.alloc o) :=
  h.new ((Bl.refl w).alloc o) (S := fun b => b = w.heap.size) ⟨fun _ => Iff.rfl, heap_alloc_new w o⟩ (fun b hb => by omega)
/-- A block becomes another one. -/
theorem Mem.upd (h : Mem w0 cs w) (k : Nat) {g : Nat} {o : Obj} (hk : cs[k]? = some (Go.Proofs.Ytedmamchfgkkfaa.blkO g o)) (o' : Obj) (hg : w'.heap[g]? = some o') (hc : Ch [g] w w') : Mem w0 (cs.set k (Go.Proofs.Ytedmamchfgkkfaa.blkO g o')) w' := by
  obtain ⟨S1, ⟨h1, _⟩, h3⟩ := h.set k hk
  exact h3 _ w' (fun b => b = g) ⟨fun _ => Iff.rfl, hg⟩ (fun b hb => .inl ((h1 b).2 hb)) (fun b hb hn => hc.block b hb (fun hm => hn ((h1 b).2 (by simpa using hm)))) hc.os hc.tape hc.output
theorem Mem.put (h : Mem w0 cs w) (k : Nat) {g : Nat} {T : TypeId} {xs : Array Value} (hk : cs[k]? = some (blk g T xs)) (i : Nat) (v : Value) : Mem w0 (cs.set k (blk g T (xs.setIfInBounds i v))) (w.setCell ⟨g, i, none⟩ v) :=
  h.upd k hk _ ((h.ob k hk).set i v) (Ch.put w g i v)
theorem Mem.row (h : Mem w0 cs w) (k : Nat) {g : Nat} {T : TypeId} {xs : Array Value} (hk : cs[k]? = some (blk g T xs)) (ys : Array Value) : Mem w0 (cs.set k (blk g T ys)) (w.setRow g ys) :=
  h.upd k hk _ (h.ob k hk).row (Ch.setRow w g ys)
/-- Two blocks are two. -/
theorem seps_ne {g g' : Nat} {o o' : Obj} (h : seps (Go.Proofs.Ytedmamchfgkkfaa.blkO g o :: Go.Proofs.Ytedmamchfgkkfaa.blkO g' o' :: cs) w S) : g ≠ g' := by
  obtain ⟨S1, S2, _, _, h3, ⟨h4, _⟩, S3, S4, h6, _, _, ⟨h7, _⟩, _⟩ := h
  intro e
  exact h3 g ((h4 g).2 rfl) (h6 g ((h7 g).2 e))

/-- A slice of the call's own. -/
def row (T : TypeId) (size : Nat) (v : Value) (n : Nat) (xs : List Value) : Chunk where
  holds w S := (∀ b, S b ↔ v.ownBlock = some b) ∧ App w 0 T size v n xs
  loc {w w' S} h k := by
    refine ⟨h.1, h.2.len, ?_⟩
    rcases h.2.is with hn | ⟨g, o, cap, cur, rfl, hb, hgg, rest⟩
    · exact .inl hn
    · exact .inr ⟨g, o, cap, cur, rfl, hb, (k g ((h.1 g).2 rfl)).trans hgg, rest⟩
  lt h hb := (h.2.lt _ ((h.1 _).1 hb)).2
theorem Mem.app (h : Mem w0 cs w) (k : Nat) {T : TypeId} {size n : Nat} {v : Value} {xs : List Value} (hk : cs[k]? = some (Go.Proofs.Ytedmamchfgkkfaa.row T size v n xs)) : App w 0 T size v n xs := by
  obtain ⟨S, _, h2⟩ := h.at k hk
  exact h2
theorem Mem.newRow (h : Mem w0 cs w) (k : Bl w w') {T : TypeId} {size n : Nat} {v : Value} {xs : List Value} (ha : App w' w.heap.size T size v n xs) : Mem w0 (Go.Proofs.Ytedmamchfgkkfaa.row T size v n xs :: cs) w' :=
  h.new k (S := fun b => v.ownBlock = some b) ⟨fun _ => Iff.rfl, ha.mono (Nat.zero_le _)⟩ (fun b hb => ha.ge b hb)
theorem Mem.nilRow (h : Mem w0 cs w) (T : TypeId) (size : Nat) : Mem w0 (Go.Proofs.Ytedmamchfgkkfaa.row T size (.slice none 0 0) 0 [] :: cs) w :=
  h.new (Bl.refl w) (S := fun _ => False) ⟨fun _ => by simp [Value.ownBlock], App.nil _ _ _ _⟩ (fun b hb => hb.elim)
/-- What append(v, ..) makes of a row. -/
theorem Mem.grow (h : Mem w0 cs w) (k : Nat) {T : TypeId} {size n m : Nat} {v v' : Value} {xs ys : List Value} (hk : cs[k]? = some (Go.Proofs.Ytedmamchfgkkfaa.row T size v n xs)) (ha : App w' 0 T size v' m ys) (hg : w.grownBy w' v.ownBlock) (hat : v'.ownBlock = v.ownBlock ∨ v'.ownBlock = some w.heap.size) :
    Mem w0 (cs.set k (Go.Proofs.Ytedmamchfgkkfaa.row T size v' m ys)) w' := by
  obtain ⟨S1, ⟨h1, _⟩, h3⟩ := h.set k hk
  refine h3 _ w' (fun b => v'.ownBlock = some b) ⟨fun _ => Iff.rfl, ha⟩ (fun b hb => ?_) (fun b hb hn => ?_) hg.os hg.tape hg.output
  · rcases hat with e | e
    · left; rw [h1, ← e]; exact hb
    · right; rw [e] at hb; cases hb; exact Nat.le_refl _
  · refine hg.block b hb (fun e => hn ((h1 b).2 e.symm))
/-- What copy and stores make of it. -/
theorem Mem.wrote (h : Mem w0 cs w) (k : Nat) {T : TypeId} {size n m : Nat} {v : Value} {xs ys : List Value} (hk : cs[k]? = some (Go.Proofs.Ytedmamchfgkkfaa.row T size v n xs)) (ha : App w' 0 T size v m ys) (hg : w.grownBy w' v.ownBlock) : Mem w0 (cs.set k (Go.Proofs.Ytedmamchfgkkfaa.row T size v m ys)) w' :=
  h.grow k hk ha hg (.inl rfl)
/-- One part is made of several, or several of one. -/
theorem Mem.turn (h : Mem w0 cs w) {n : Nat} {A : List Chunk} (k : ∀ {w : World} {S : Nat → Prop}, seps (cs.take n) w S → seps A w S) : Mem w0 (A ++ cs.drop n) w := by
  refine h.map (fun {w S} h => ?_)
  have key : ∀ (n : Nat) (cs : List Chunk) (S : Nat → Prop), seps cs w S → ∃ S1 S2 : Nat → Prop, (∀ b, S1 b → S b) ∧ (∀ b, S2 b → S b) ∧ (∀ b, S1 b → S2 b → False) ∧ seps (cs.take n) w S1 ∧ seps (cs.drop n) w S2 := by
    intro n
    induction n with
    | zero => exact fun cs S h => ⟨fun _ => False, S, fun _ h => h.elim, fun _ h => h, fun _ h _ => h, trivial, h⟩
    | succ n ih =>
      intro cs S h
      cases cs with
      | nil => exact ⟨fun _ => False, S, fun _ h => h.elim, fun _ h => h, fun _ h _ => h, trivial, trivial⟩
      | cons a cs =>
        obtain ⟨S1, S2, h1, h2, h3, h4, h5⟩ := h
        obtain ⟨S3, S4, g1, g2, g3, g4, g5⟩ := ih cs S2 h5
        refine ⟨fun b => S1 b ∨ S3 b, S4, fun b hb => hb.elim (h1 b) (fun h => h2 b (g1 b h)), fun b hb => h2 b (g2 b hb), fun b x y => x.elim (fun x => h3 b x (g2 b y)) (fun x => g3 b x y), ?_, g5⟩
        exact ⟨S1, S3, fun b h => .inl h, fun b h => .inr h, fun b x y => h3 b x (g1 b y), h4, g4⟩
  obtain ⟨S1, S2, h1, h2, h3, h4, h5⟩ := key n cs S h
  have join : ∀ (A B : List Chunk) (S1 S2 S : Nat → Prop), seps A w S1 → seps B w S2 → (∀ b, S1 b → S b) → (∀ b, S2 b → S b) → (∀ b, S1 b → S2 b → False) → seps (A ++ B) w S := by
    intro A
    induction A with
    | nil => exact fun B S1 S2 S _ hb _ k2 _ => seps_mono hb k2
    | cons a A ih =>
      intro B S1 S2 S ⟨T1, T2, t1, t2, t3, t4, t5⟩ hb k1 k2 k3
      exact ⟨T1, fun b => T2 b ∨ S2 b, fun b h => k1 b (t1 b h), fun b h => h.elim (fun h => k1 b (t2 b h)) (k2 b), fun b x y => y.elim (t3 b x) (fun y => k3 b (t1 b x) y), t4, ih B T2 S2 _ t5 hb (fun _ h => .inl h) (fun _ h => .inr h) (fun b x y => k3 b (t2 b x) y)⟩
  exact join A _ S1 S2 S (k h4) h5 h1 h2 h3
/-- Several parts as one. -/
def tog (l : List Chunk) : Chunk where
  holds w S := seps l w S ∧ ∀ b, S b → b < w.heap.size
  loc {w w' S} h k := ⟨seps_loc h.1 k, fun b hb => by
    have h1 := h.2 b hb
    have h2 := k b hb
    rw [Array.getElem?_eq_getElem h1] at h2
    exact (Array.getElem?_eq_some_iff.1 h2).1⟩
  lt h hb := h.2 _ hb
theorem seps_tog {l cs : List Chunk} {w : World} {S : Nat → Prop} (h : seps (tog l :: cs) w S) : seps (l ++ cs) w S := by
  obtain ⟨S1, S2, h1, h2, h3, ⟨h4, h6⟩, h5⟩ := h
  clear h6
  induction l generalizing S S1 with
  | nil => exact seps_mono h5 h2
  | cons a l ih =>
    obtain ⟨T1, T2, t1, t2, t3, t4, t5⟩ := h4
    exact ⟨T1, fun b => T2 b ∨ S2 b, fun b h => h1 b (t1 b h), fun b h => h.elim (fun h => h1 b (t2 b h)) (h2 b), fun b x y => y.elim (t3 b x) (fun y => h3 b (t1 b x) y), t4,
      ih T2 (fun _ h => .inl h) (fun _ h => .inr h) (fun b x y => h3 b (t2 b x) y) t5⟩
theorem seps_untog {l cs : List Chunk} {w : World} {S : Nat → Prop} (h : seps (l ++ cs) w S) : seps (tog l :: cs) w S := by
  have key : ∀ (l : List Chunk) (S : Nat → Prop), seps (l ++ cs) w S → ∃ S1 S2 : Nat → Prop, (∀ b, S1 b → S b) ∧ (∀ b, S2 b → S b) ∧ (∀ b, S1 b → S2 b → False) ∧ seps l w S1 ∧ (∀ b, S1 b → b < w.heap.size) ∧ seps cs w S2 := by
    intro l
    induction l with
    | nil => exact fun S h => ⟨fun _ => False, S, fun _ h => h.elim, fun _ h => h, fun _ h _ => h, trivial, fun _ h => h.elim, h⟩
    | cons a l ih =>
      intro S ⟨T1, T2, t1, t2, t3, t4, t5⟩
      obtain ⟨S1, S2, g1, g2, g3, g4, g5, g6⟩ := ih T2 t5
      exact ⟨fun b => T1 b ∨ S1 b, S2, fun b h => h.elim (t1 b) (fun h => t2 b (g1 b h)), fun b h => t2 b (g2 b h), fun b x y => x.elim (fun x => t3 b x (g2 b y)) (fun x => g3 b x y), ⟨T1, S1, fun _ h => .inl h, fun _ h => .inr h, fun b x y => t3 b x (g1 b y), t4, g4⟩, fun b h => h.elim (a.lt t4) (g5 b), g6⟩
  obtain ⟨S1, S2, h1, h2, h3, h4, h5, h6⟩ := key l S h
  exact ⟨S1, S2, h1, h2, h3, ⟨h4, h5⟩, h6⟩
theorem Mem.open_ {l : List Chunk} (h : Mem w0 (tog l :: cs) w) : Mem w0 (l ++ cs) w := h.map seps_tog
theorem Mem.close {l : List Chunk} (h : Mem w0 (l ++ cs) w) : Mem w0 (tog l :: cs) w := h.map seps_untog
/-- A part of which something is not told. -/
def exs {α : Sort u} (f : α → Chunk) : Chunk where
  holds w S := ∃ x, (f x).holds w S
  loc h k := h.imp fun x hx => (f x).loc hx k
  lt h hb := h.elim fun x hx => (f x).lt hx hb
theorem Mem.ex {α : Sort u} {f : α → Chunk} (h : Mem w0 (exs f :: cs) w) : ∃ x, Mem w0 (f x :: cs) w := by
  obtain ⟨e1, e2, e3, S1, S2, h1, h2, h3, ⟨x, h4⟩, h5⟩ := h
  exact ⟨x, e1, e2, e3, S1, S2, h1, h2, h3, h4, h5⟩
theorem Mem.unex {α : Sort u} {f : α → Chunk} (x : α) (h : Mem w0 (f x :: cs) w) : Mem w0 (exs f :: cs) w := by
  obtain ⟨e1, e2, e3, S1, S2, h1, h2, h3, h4, h5⟩ := h
  exact ⟨e1, e2, e3, S1, S2, h1, h2, h3, ⟨x, h4⟩, h5⟩
/-- A part, and a fact. -/
def pur (p : Prop) : Chunk where
  holds _ S := (∀ b, ¬ S b) ∧ p
  loc h _ := h
  lt h hb := (h.1 _ hb).elim
theorem Mem.pur {p : Prop} (h : Mem w0 (Go.Proofs.Ytedmamchfgkkfaa.pur p :: cs) w) : p ∧ Mem w0 cs w := ⟨by obtain ⟨_, _, _, S1, S2, h1, h2, h3, h4, h5⟩ := h; exact h4.2, h.drop⟩
theorem Mem.unpur {p : Prop} (hp : p) (h : Mem w0 cs w) : Mem w0 (Go.Proofs.Ytedmamchfgkkfaa.pur p :: cs) w := h.new (Bl.refl w) (S := fun _ => False) ⟨fun _ h => h, hp⟩ (fun _ h => h.elim)
end
end Go.Proofs.Ytedmamchfgkkfaa
/- Layer 18 (node) walked: slices.Clone of texts. -/
set_option linter.unusedVariables false
set_option linter.unusedSimpArgs false
namespace Go.Proofs.Ytedmamchfgkkfaa
open Go.RowKit
set_option maxRecDepth 100000
set_option maxHeartbeats 2000000

theorem Rd.none_nil {w : World} {xs : List Value} (h : Rd w none xs) : xs = [] := by
  apply Classical.byContradiction
  intro hn
  obtain ⟨_, _, e, _⟩ := h hn
  cases e
theorem clone_S (A : Option Addr) (c : Nat) (xs : List ByteArray) (w : World) (hl : xs.length ≤ 1000000) (hr : Rd w A (xs.map sv)) :
    Calls Try.prog 90 #[.slice A xs.length c] w (RetS xs w) := by
  have kn := fun (w : World) a l c => Lib.run_eql_slice_nil (P := Try.prog) w 49 9 a l c 0 0 Try.underlying49
  cases A with
  | none =>
    obtain rfl : xs = [] := by simpa using hr.none_nil
    go_enter Try.func90, Try.ntmps90
    go_wp2_with fail
    go_ret
    exact RetS.mk (App.nil _ _ _ _) (Bl.refl w)
  | some p =>
    have HR := Lib.hid (hr.bl ((Bl.refl w).alloc (.cells #[] 9)))
    have HA := Lib.hid (App.fresh (base := w.heap.size) (n := 0) (size := 1) (heap_alloc_new w (.cells #[] 9)) (Nat.le_refl _) (by decide) rfl)
    clear hr
    go_enter Try.func90, Try.ntmps90
    go_wp2_with (at_builtin; go_must (refine append_row rfl _ _ 49 9 (.string .empty) 1 16 rfl Try.underlying49 Try.infoStr rfl (by decide) w.heap.size HA.out (by rfl) (by rfl) HR.out (by simp) (sv_one _) (by simp; omega) (by simp; omega) (by simp) ?_); intro v5 w5 hown5 hgr5 hat5)
    go_ret
    refine RetS.mk (by simpa using hown5) ?_
    exact Bl.grown ((Bl.refl w).alloc _) hgr5 (fun q hq => by simp [Value.ownBlock] at hq; omega)
end Go.Proofs.Ytedmamchfgkkfaa
