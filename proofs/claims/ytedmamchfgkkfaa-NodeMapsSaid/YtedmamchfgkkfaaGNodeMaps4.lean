/- Texts of the claim NodeMaps, part 4: NodeR, NodeT. -/
import Derived.Test.YtedmamchfgkkfaaGNodeMaps3
/- Layer 18 (node): what a node is parted into; Part walked. -/
set_option linter.unusedVariables false
set_option linter.unusedSimpArgs false
namespace Go.Proofs.Ytedmamchfgkkfaa
open Go.RowKit
set_option maxRecDepth 100000
set_option maxHeartbeats 8000000

structure Nd where
  k : Int
  keys : List ByteArray
  vals : List ByteArray
  kids : List Int
def ndNil : Nd := ⟨0, [], [], []⟩
structure PartR where
  a : Nd
  sep : ByteArray
  b : Nd
  e : Int
def nodePart (k : Int) (ks vs : List ByteArray) (is : List Int) : PartR :=
  if nodeRight k ks vs is 12 13 = false ∨ ks.length ≤ 6 then ⟨ndNil, ⟨#[]⟩, ndNil, 2⟩
  else if k = 1 then ⟨⟨k, ks.take (ks.length - ks.length / 2), vs.take (ks.length - ks.length / 2), []⟩, ks.getD (ks.length - ks.length / 2) .empty, ⟨k, ks.drop (ks.length - ks.length / 2), vs.drop (ks.length - ks.length / 2), []⟩, 0⟩
  else ⟨⟨k, ks.take (ks.length / 2), [], is.take (ks.length / 2 + 1)⟩, ks.getD (ks.length / 2) .empty, ⟨k, ks.drop (ks.length / 2 + 1), [], is.drop (ks.length / 2 + 1)⟩, 0⟩
/-- A node's cells, its three slices readable. -/
def RdNd (w : World) (n : Nd) (cs : Array Value) : Prop := ∃ A c B d I ci, cs = #[.int .u8 n.k, .slice A n.keys.length c, .slice B n.vals.length d, .slice I n.kids.length ci] ∧ Rd w A (n.keys.map sv) ∧ Rd w B (n.vals.map sv) ∧ Rd w I (n.kids.map iv)
def RetPart (r : PartR) (w : World) (e : Ending) (w' : World) : Prop := ∃ cs cs2, e = .returned (.tuple #[.agg cs, .string r.sep, .agg cs2, .int .i64 r.e]) ∧ RdNd w' r.a cs ∧ RdNd w' r.b cs2 ∧ Bl w w'
theorem RdNd.nil (w : World) : RdNd w ndNil #[.int .u8 0, .slice none 0 0, .slice none 0 0, .slice none 0 0] := ⟨none, 0, none, 0, none, 0, rfl, Rd.nil _ _, Rd.nil _ _, Rd.nil _ _⟩
/-- Three variables of a node each: the box, two results. -/
theorem part_setup (w : World) (cs : Array Value) :
    Ob (((w.alloc (.cells cs 52)).alloc (.cells #[.int .u8 0, .slice none 0 0, .slice none 0 0, .slice none 0 0] 52)).alloc (.cells #[.int .u8 0, .slice none 0 0, .slice none 0 0, .slice none 0 0] 52)) w.heap.size 52 cs ∧
    Ob (((w.alloc (.cells cs 52)).alloc (.cells #[.int .u8 0, .slice none 0 0, .slice none 0 0, .slice none 0 0] 52)).alloc (.cells #[.int .u8 0, .slice none 0 0, .slice none 0 0, .slice none 0 0] 52)) (w.heap.size + 1) 52 #[.int .u8 0, .slice none 0 0, .slice none 0 0, .slice none 0 0] ∧
    Ob (((w.alloc (.cells cs 52)).alloc (.cells #[.int .u8 0, .slice none 0 0, .slice none 0 0, .slice none 0 0] 52)).alloc (.cells #[.int .u8 0, .slice none 0 0, .slice none 0 0, .slice none 0 0] 52)) (w.heap.size + 1 + 1) 52 #[.int .u8 0, .slice none 0 0, .slice none 0 0, .slice none 0 0] := by
  refine ⟨?_, ?_, ?_⟩
  all_goals simp only [Ob, heap_alloc_at, heap_alloc_size, if_true] <;> (repeat' split) <;> first | rfl | omega
theorem node_Part (k : Int) (A B I : Option Addr) (keys vals : List ByteArray) (kids : List Int) (c d ci : Nat) (w : World) (hk : keys.length * 16 ≤ 140737488355328) (hv : vals.length * 16 ≤ 140737488355328) (hn : kids.length * 8 ≤ 140737488355328) (hkc : keys.length ≤ c) (hvd : vals.length ≤ d) (hic : kids.length ≤ ci)
    (rk : Rd w A (keys.map sv)) (rv : Rd w B (vals.map sv)) (rn : Rd w I (kids.map iv)) :
    Calls Try.prog 47 #[nodeV k A keys.length c B vals.length d I kids.length ci] w (RetPart (nodePart k keys vals kids) w) := by
  have RK := Lib.hid rk
  have RV := Lib.hid rv
  have RN := Lib.hid rn
  obtain ⟨o1, o2, o3⟩ := part_setup w #[.int .u8 k, .slice A keys.length c, .slice B vals.length d, .slice I kids.length ci]
  have HO := Lib.hid o1
  have HY := Lib.hid o2
  have HZ := Lib.hid o3
  have HW := Lib.hid ((((Bl.refl w).alloc (.cells #[.int .u8 k, .slice A keys.length c, .slice B vals.length d, .slice I kids.length ci] 52)).alloc (.cells #[.int .u8 0, .slice none 0 0, .slice none 0 0, .slice none 0 0] 52)).alloc (.cells #[.int .u8 0, .slice none 0 0, .slice none 0 0, .slice none 0 0] 52))
  have hwide := node_Wide k A B I keys vals kids c d ci
  clear rk rv rn o1 o2 o3
  go_enter Try.func47, Try.ntmps47
  go_wp2_with (go_at_call 34; fail_if_success skip)
  generalize (((w.alloc (.cells #[.int .u8 k, .slice A keys.length c, .slice B vals.length d, .slice I kids.length ci] 52)).alloc (.cells #[.int .u8 0, .slice none 0 0, .slice none 0 0, .slice none 0 0] 52)).alloc (.cells #[.int .u8 0, .slice none 0 0, .slice none 0 0, .slice none 0 0] 52)) = u at HO HY HZ HW ⊢
  refine (hwide u (by omega) (by omega) (by omega) (RK.out.bl HW.out) (RV.out.bl HW.out) (RN.out.bl HW.out)).mono ?_
  clear hwide
  rintro e w1 ⟨rfl, hbl1⟩
  have HO1 := Lib.hid (HO.out.bl hbl1)
  have HY1 := Lib.hid (HY.out.bl hbl1)
  have HZ1 := Lib.hid (HZ.out.bl hbl1)
  have HW1 := Lib.hid (HW.out.trans hbl1)
  obtain ⟨o0, o1, o2, o3, _⟩ := Ob.all4 HO1.out
  obtain ⟨y0, y1, y2, y3, yf0, yf1, yf2, yf3⟩ := Ob.all4 HY1.out
  obtain ⟨z0, z1, z2, z3, zf0, zf1, zf2, zf3⟩ := Ob.all4 HZ1.out
  clear hbl1 HO HY HZ HW
  by_cases hbad : nodeRight k keys vals kids 12 13 = false ∨ keys.length ≤ 6
  · have HP := Lib.hid (show nodePart k keys vals kids = ⟨ndNil, ⟨#[]⟩, ndNil, 2⟩ by unfold nodePart; rw [if_pos hbad])
    cases hr : nodeRight k keys vals kids 12 13
    · clear hbad
      go_wp2_with fail
      refine bodyPost_ret (v := .tuple #[.agg #[.int .u8 0, .slice none 0 0, .slice none 0 0, .slice none 0 0], .string ⟨#[]⟩, .agg #[.int .u8 0, .slice none 0 0, .slice none 0 0, .slice none 0 0], .int .i64 2]) (results_ctct (v := .string ⟨#[]⟩) (v2 := .int .i64 2) rfl _ _ (((HY1.out.set4 _ _ _ _).1).ch (HZ1.out.ch (HY1.out.set4 (.int .u8 0) (.slice none 0 0) (.slice none 0 0) (.slice none 0 0)).2 (by simp) |>.set4 (.int .u8 0) (.slice none 0 0) (.slice none 0 0) (.slice none 0 0)).2 (by simp)) ((HZ1.out.ch (HY1.out.set4 (.int .u8 0) (.slice none 0 0) (.slice none 0 0) (.slice none 0 0)).2 (by simp)).set4 _ _ _ _).1 rfl rfl rfl rfl Try.underlying52 rfl Try.sizeNode Try.sizeNode) rfl ?_
      unfold RetPart
      rw [HP.out]
      exact ⟨_, _, rfl, RdNd.nil _, RdNd.nil _, (((HW1.out.ch [w.heap.size + 1, w.heap.size + 1 + 1]).same ((HY1.out.set4 _ _ _ _).2.mono (by simp))).same ((HZ1.out.ch (HY1.out.set4 (.int .u8 0) (.slice none 0 0) (.slice none 0 0) (.slice none 0 0)).2 (by simp)).set4 _ _ _ _ |>.2.mono (by simp))).bl (by intro g hg; simp at hg; omega)⟩
    · have h6 : keys.length ≤ 6 := by
        rcases hbad with h | h
        · rw [hr] at h; cases h
        · exact h
      clear hbad
      go_wp2_with fail
      refine bodyPost_ret (v := .tuple #[.agg #[.int .u8 0, .slice none 0 0, .slice none 0 0, .slice none 0 0], .string ⟨#[]⟩, .agg #[.int .u8 0, .slice none 0 0, .slice none 0 0, .slice none 0 0], .int .i64 2]) (results_ctct (v := .string ⟨#[]⟩) (v2 := .int .i64 2) rfl _ _ (((HY1.out.set4 _ _ _ _).1).ch (HZ1.out.ch (HY1.out.set4 (.int .u8 0) (.slice none 0 0) (.slice none 0 0) (.slice none 0 0)).2 (by simp) |>.set4 (.int .u8 0) (.slice none 0 0) (.slice none 0 0) (.slice none 0 0)).2 (by simp)) ((HZ1.out.ch (HY1.out.set4 (.int .u8 0) (.slice none 0 0) (.slice none 0 0) (.slice none 0 0)).2 (by simp)).set4 _ _ _ _).1 rfl rfl rfl rfl Try.underlying52 rfl Try.sizeNode Try.sizeNode) rfl ?_
      unfold RetPart
      rw [HP.out]
      exact ⟨_, _, rfl, RdNd.nil _, RdNd.nil _, (((HW1.out.ch [w.heap.size + 1, w.heap.size + 1 + 1]).same ((HY1.out.set4 _ _ _ _).2.mono (by simp))).same ((HZ1.out.ch (HY1.out.set4 (.int .u8 0) (.slice none 0 0) (.slice none 0 0) (.slice none 0 0)).2 (by simp)).set4 _ _ _ _ |>.2.mono (by simp))).bl (by intro g hg; simp at hg; omega)⟩
  · have hr : nodeRight k keys vals kids 12 13 = true := by
      cases hr : nodeRight k keys vals kids 12 13
      · exact absurd (.inl hr) hbad
      · rfl
    have h6 : 6 < keys.length := by omega
    rw [hr]
    obtain ⟨hko, hcase⟩ := nodeRight_or hr
    rcases hcase with ⟨hk1, hk12, hvl, hkn, hvo⟩ | ⟨hk2, hk1, hk13, hkl, hvn, hno⟩
    · subst hk1
      subst hkn
      obtain ⟨m, hm⟩ : ∃ m : Nat, m = keys.length - keys.length / 2 := ⟨_, rfl⟩
      have HP := Lib.hid (show nodePart 1 keys vals [] = ⟨⟨1, keys.take m, vals.take m, []⟩, keys.getD m .empty, ⟨1, keys.drop m, vals.drop m, []⟩, 0⟩ by unfold nodePart; rw [if_neg hbad, if_pos rfl, ← hm])
      have HVL := Lib.hid hvl
      have hvm : m ≤ vals.length := by omega
      have em : ((keys.length : Int) - (keys.length : Int) / 2) = (m : Int) := by omega
      have hmk : m < keys.length := by omega
      obtain ⟨x, hx⟩ := get_some keys m hmk
      obtain ⟨b, o, rfl, hcx⟩ := RK.out.get hx
      simp only [sv] at hcx
      have HCX := Lib.hid hcx
      have HX := Lib.hid (getD_of hx ByteArray.empty)
      clear hbad hr hko hvo hvl hm
      clear hx hcx
      simp only [List.length_nil] at HO1 o2 o3 ⊢
      go_upto_region 6 with (fail)
      clear em
      have HK : Hid (∀ w' : World, Ch [w.heap.size + 1, w.heap.size + 1 + 1] w1 w' → w'.cell? ⟨w.heap.size, 0, none⟩ = some (.int .u8 1) ∧ w'.cell? ⟨w.heap.size, 1, none⟩ = some (.slice (some ⟨b, o, none⟩) keys.length c) ∧ w'.cell? ⟨w.heap.size, 2, none⟩ = some (.slice B vals.length d) ∧ w'.cell? ⟨w.heap.size, 3, none⟩ = some (.slice I 0 ci) ∧ Ch [w.heap.size + 1, w.heap.size + 1 + 1] w1 w') := fun w' h => by
        obtain ⟨a0, a1, a2, a3, _⟩ := Ob.all4 (HO1.out.ch h (by simp <;> omega))
        exact ⟨a0, a1, a2, a3, h⟩
      go_cut [] (fun wx => Hid (Ob wx (w.heap.size + 1) 52 #[.int .u8 1, .slice (some ⟨b, o, none⟩) m m, .slice B m m, .slice none 0 0] ∧ Ch [w.heap.size + 1] w1 wx))
      case first =>
          have r1 := cut_hm (P := Try.prog) 49 9 1 Try.underlying49 Try.sizeStr (some ⟨b, o, none⟩) keys.length c m (by omega)
          have r2 := cut_hm (P := Try.prog) 49 9 1 Try.underlying49 Try.sizeStr B vals.length d m (by omega)
          go_region_held3 (fun w' => w'.cell? ⟨w.heap.size, 0, none⟩ = some (.int .u8 1) ∧ w'.cell? ⟨w.heap.size, 1, none⟩ = some (.slice (some ⟨b, o, none⟩) keys.length c) ∧ w'.cell? ⟨w.heap.size, 2, none⟩ = some (.slice B vals.length d) ∧ w'.cell? ⟨w.heap.size, 3, none⟩ = some (.slice I 0 ci) ∧ Ch [w.heap.size + 1, w.heap.size + 1 + 1] w1 w')
            (exact HK.out _ (by (focus ((repeat (first | with_reducible assumption | with_reducible exact Ch.refl _ _ | with_reducible refine Ch.drew ?_ | with_reducible refine Ch.drewN ?_ _ | with_reducible refine Ch.alloc ?_ _ | with_reducible refine Ch.cellput ?_ (by simp) _ | (with_reducible refine Ch.same ?_ (by with_reducible assumption)) | (with_reducible refine Ch.step ?_ (by with_reducible assumption)))); done))))
            (first
              | fail)
          all_goals
            go_wp2_with fail
            go_meet
            case rel => exact ⟨((HY1.out.bl (Bl.refl _).drew).set4 _ _ _ _).1, (by (focus ((repeat (first | with_reducible assumption | with_reducible exact Ch.refl _ _ | with_reducible refine Ch.drew ?_ | with_reducible refine Ch.drewN ?_ _ | with_reducible refine Ch.alloc ?_ _ | with_reducible refine Ch.cellput ?_ (by simp) _ | (with_reducible refine Ch.same ?_ (by with_reducible assumption)) | (with_reducible refine Ch.step ?_ (by with_reducible assumption)))); done)))⟩
      case rest =>
          obtain ⟨hY2, hcw⟩ := hcut.out
          have HY2 := Lib.hid hY2
          have HZ2 := Lib.hid (HZ1.out.ch hcw (by simp))
          have HCW := Lib.hid (hcw.mono (M := [w.heap.size + 1, w.heap.size + 1 + 1]) (by simp))
          obtain ⟨o0', o1', o2', o3', _⟩ := HK.out _ HCW.out
          obtain ⟨z0', z1', z2', z3', zf0', zf1', zf2', zf3'⟩ := Ob.all4 HZ2.out
          clear hY2 hcw y0 y1 y2 y3 yf0 yf1 yf2 yf3 z0 z1 z2 z3 zf0 zf1 zf2 zf3 o0 o1 o2 o3
          go_upto_region 7 with (fail)
          go_cut [] (fun wx => Hid (Ob wx (w.heap.size + 1) 52 #[.int .u8 1, .slice (some ⟨b, o, none⟩) m m, .slice B m m, .slice none 0 0] ∧ Ob wx (w.heap.size + 1 + 1) 52 #[.int .u8 1, .slice (cutAddr (some ⟨b, o, none⟩) 1 m c) (keys.length - m) (c - m), .slice (cutAddr B 1 m d) (vals.length - m) (d - m), .slice none 0 0] ∧ Ch [w.heap.size + 1, w.heap.size + 1 + 1] w1 wx))
          case first =>
            have r1 := cut_l (P := Try.prog) 49 9 1 Try.underlying49 Try.sizeStr (some ⟨b, o, none⟩) keys.length c m (by omega)
            have r2 := cut_l (P := Try.prog) 49 9 1 Try.underlying49 Try.sizeStr B vals.length d m (by omega)
            have hcw2 := HCW.out
            go_region_held3 (fun w' => w'.cell? ⟨w.heap.size, 0, none⟩ = some (.int .u8 1) ∧ w'.cell? ⟨w.heap.size, 1, none⟩ = some (.slice (some ⟨b, o, none⟩) keys.length c) ∧ w'.cell? ⟨w.heap.size, 2, none⟩ = some (.slice B vals.length d) ∧ w'.cell? ⟨w.heap.size, 3, none⟩ = some (.slice I 0 ci) ∧ Ch [w.heap.size + 1, w.heap.size + 1 + 1] w1 w')
              (exact HK.out _ (by (focus ((repeat (first | with_reducible assumption | with_reducible exact Ch.refl _ _ | with_reducible refine Ch.drew ?_ | with_reducible refine Ch.drewN ?_ _ | with_reducible refine Ch.alloc ?_ _ | with_reducible refine Ch.cellput ?_ (by simp) _ | (with_reducible refine Ch.same ?_ (by with_reducible assumption)) | (with_reducible refine Ch.step ?_ (by with_reducible assumption)))); done))))
              (first
                | fail)
            all_goals
              go_wp2_with fail
              go_meet
              case rel => exact ⟨HY2.out.ch ((Ch.drew (Ch.refl [w.heap.size + 1 + 1] wc)).same ((HZ2.out.bl (Bl.refl _).drew).set4 _ _ _ _).2) (by simp), ((HZ2.out.bl (Bl.refl _).drew).set4 _ _ _ _).1, (by (focus ((repeat (first | with_reducible assumption | with_reducible exact Ch.refl _ _ | with_reducible refine Ch.drew ?_ | with_reducible refine Ch.drewN ?_ _ | with_reducible refine Ch.alloc ?_ _ | with_reducible refine Ch.cellput ?_ (by simp) _ | (with_reducible refine Ch.same ?_ (by with_reducible assumption)) | (with_reducible refine Ch.step ?_ (by with_reducible assumption)))); done)))⟩
          case rest =>
            obtain ⟨hY3, hZ3, hcw3⟩ := hcut.out
            have HY3 := Lib.hid hY3
            have HZ3 := Lib.hid hZ3
            have HCW3 := Lib.hid hcw3
            clear hY3 hZ3
            have l1 : (keys.take m).length = m := by simp; omega
            have l2 : (vals.take m).length = m := by simp; omega
            have l3 : (keys.drop m).length = keys.length - m := by simp
            have l4 : (vals.drop m).length = vals.length - m := by simp
            have HRA : Hid (∀ w', Ch [w.heap.size + 1, w.heap.size + 1 + 1] w1 w' → Rd w' (some ⟨b, o, none⟩) (keys.map sv)) := fun w' h => RK.out.later HW1.out h (by intro g hg; simp at hg; omega)
            have HRB : Hid (∀ w', Ch [w.heap.size + 1, w.heap.size + 1 + 1] w1 w' → Rd w' B (vals.map sv)) := fun w' h => RV.out.later HW1.out h (by intro g hg; simp at hg; omega)
            have HRX : Hid (∀ w', Ch [w.heap.size + 1, w.heap.size + 1 + 1] w1 w' → w'.cell? ⟨b, o + m, none⟩ = some (.string x)) := fun w' h => ((HW1.out.ch [w.heap.size + 1, w.heap.size + 1 + 1]).same h |>.bl (by intro g hg; simp at hg; omega)).cellAt HCX.out
            have q1 : Hid (∀ w', Ch [w.heap.size + 1, w.heap.size + 1 + 1] w1 w' → Calls Try.prog 89 #[.agg #[.int .u8 1, .slice (some ⟨b, o, none⟩) m m, .slice B m m, .slice none 0 0]] w' (RetFit 1 (keys.take m) (vals.take m) [] w')) := fun w' h => by
              have h1 := node_own 1 (some ⟨b, o, none⟩) B none (keys.take m) (vals.take m) [] m m 0 _ (by simp; omega) (by simp; omega) (by simp)
                (by rw [List.map_take]; exact (HRA.out w' h).take m) (by rw [List.map_take]; exact (HRB.out w' h).take m) (Rd.nil _ _)
              rw [l1, l2] at h1
              exact h1
            have q2 : Hid (∀ w', Ch [w.heap.size + 1, w.heap.size + 1 + 1] w1 w' → Calls Try.prog 89 #[.agg #[.int .u8 1, .slice (cutAddr (some ⟨b, o, none⟩) 1 m c) (keys.length - m) (c - m), .slice (cutAddr B 1 m d) (vals.length - m) (d - m), .slice none 0 0]] w' (RetFit 1 (keys.drop m) (vals.drop m) [] w')) := fun w' h => by
              have h1 := node_own 1 (cutAddr (some ⟨b, o, none⟩) 1 m c) (cutAddr B 1 m d) none (keys.drop m) (vals.drop m) [] (c - m) (d - m) 0 _ (by simp; omega) (by simp; omega) (by simp)
                (by have := (HRA.out w' h).cutTo 1 m c (by intro e; simp; omega); simpa [List.map_drop] using this) (by have := (HRB.out w' h).cutTo 1 m d (by intro e; simp; omega); simpa [List.map_drop] using this) (Rd.nil _ _)
              rw [l3, l4] at h1
              exact h1
            have HK3 : Hid (∀ w' : World, Ch [w.heap.size + 1, w.heap.size + 1 + 1] w1 w' → w'.cell? ⟨w.heap.size, 0, none⟩ = some (.int .u8 1) ∧ w'.cell? ⟨w.heap.size, 1, none⟩ = some (.slice (some ⟨b, o, none⟩) keys.length c) ∧ w'.cell? ⟨w.heap.size, 2, none⟩ = some (.slice B vals.length d) ∧ w'.cell? ⟨w.heap.size, 3, none⟩ = some (.slice I 0 ci) ∧ w'.cell? ⟨b, o + m, none⟩ = some (.string x) ∧ Ch [w.heap.size + 1, w.heap.size + 1 + 1] w1 w') := fun w' h => by
              obtain ⟨a0, a1, a2, a3, h2⟩ := HK.out w' h
              exact ⟨a0, a1, a2, a3, HRX.out w' h, h2⟩
            obtain ⟨y0, y1, y2, y3, yf0, yf1, yf2, yf3⟩ := Ob.all4 HY3.out
            obtain ⟨z0, z1, z2, z3, zf0, zf1, zf2, zf3⟩ := Ob.all4 HZ3.out
            clear o0' o1' o2' o3' z0' z1' z2' z3' zf0' zf1' zf2' zf3'
            go_upto_region 8 with (fail)
            refine wp_region_held_drew (S := (fun w' => w'.cell? ⟨w.heap.size, 0, none⟩ = some (.int .u8 1) ∧ w'.cell? ⟨w.heap.size, 1, none⟩ = some (.slice (some ⟨b, o, none⟩) keys.length c) ∧ w'.cell? ⟨w.heap.size, 2, none⟩ = some (.slice B vals.length d) ∧ w'.cell? ⟨w.heap.size, 3, none⟩ = some (.slice I 0 ci) ∧ w'.cell? ⟨b, o + m, none⟩ = some (.string x) ∧ Ch [w.heap.size + 1, w.heap.size + 1 + 1] w1 w')) (by kernel_rfl) (HK3.out _ (by (focus ((repeat (first | with_reducible assumption | with_reducible exact Ch.refl _ _ | with_reducible refine Ch.drew ?_ | with_reducible refine Ch.drewN ?_ _ | with_reducible refine Ch.alloc ?_ _ | with_reducible refine Ch.cellput ?_ (by simp) _ | (with_reducible refine Ch.same ?_ (by with_reducible assumption)) | (with_reducible refine Ch.step ?_ (by with_reducible assumption)))); done)))) (fun hHeld => ?_)
            refine' wpAnyH_take (i := 2) (v := _) rfl (by kernel_rfl) (by kernel_rfl) (by kernel_rfl) (fun _ _ _ h => h) (Or.inl ⟨by rfl, ?_⟩) (by assumption) ?_
            rotate_left
            · (intro w hSw; (try dsimp only at hSw); go_simp; try with_reducible rfl)
            simp only [Act.put, List.setIfInBounds_toArray, List.set_cons_zero, List.set_cons_succ]
            refine' wpAnyH_take (i := 3) (v := _) rfl (by kernel_rfl) (by kernel_rfl) (by kernel_rfl) (fun _ _ _ h => h) (Or.inl ⟨by rfl, ?_⟩) (by assumption) ?_
            rotate_left
            · (intro w hSw; (try dsimp only at hSw); go_simp; try with_reducible rfl)
            simp only [Act.put, List.setIfInBounds_toArray, List.set_cons_zero, List.set_cons_succ]
            refine' wpAnyH_take (i := 4) (v := _) rfl (by kernel_rfl) (by kernel_rfl) (by kernel_rfl) (fun _ _ _ h => h) (Or.inl ⟨by rfl, ?_⟩) (by assumption) ?_
            rotate_left
            · (intro w hSw; (try dsimp only at hSw); go_simp; try with_reducible rfl)
            simp only [Act.put, List.setIfInBounds_toArray, List.set_cons_zero, List.set_cons_succ]
            refine' wpAnyH_take (i := 5) (v := _) rfl (by kernel_rfl) (by kernel_rfl) (by kernel_rfl) (fun _ _ _ h => h) (Or.inl ⟨by rfl, ?_⟩) (by assumption) ?_
            rotate_left
            · (intro w hSw; (try dsimp only at hSw); go_simp; try with_reducible rfl)
            simp only [Act.put, List.setIfInBounds_toArray, List.set_cons_zero, List.set_cons_succ]
            refine' wpAnyH_take (i := 6) (v := _) rfl (by kernel_rfl) (by kernel_rfl) (by kernel_rfl) (fun _ _ _ h => h) (Or.inl ⟨by rfl, ?_⟩) (by assumption) ?_
            rotate_left
            · (intro w hSw; (try dsimp only at hSw); go_simp; try with_reducible rfl)
            simp only [Act.put, List.setIfInBounds_toArray, List.set_cons_zero, List.set_cons_succ]
            refine wpAnyH_ready (rs := [0, 7]) (by kernel_rfl) (by simp) ?_
            refine AllReadyH.cons (by rfl) (fun K hK => ?_) ?_
            · go_simp
              refine hK.out _ _ (HK3.out _ (by (focus ((repeat (first | with_reducible assumption | with_reducible exact Ch.refl _ _ | with_reducible refine Ch.drew ?_ | with_reducible refine Ch.drewN ?_ _ | with_reducible refine Ch.alloc ?_ _ | with_reducible refine Ch.cellput ?_ (by simp) _ | (with_reducible refine Ch.same ?_ (by with_reducible assumption)) | (with_reducible refine Ch.step ?_ (by with_reducible assumption)))); done)))) (fun hHeld => ?_)
              clear hK K
              try simp only [Act.put, List.setIfInBounds_toArray, List.set_cons_zero, List.set_cons_succ]
              refine wpAnyH_ready (rs := [1, 7]) (by kernel_rfl) (by simp) ?_
              refine AllReadyH.cons (by rfl) (fun K hK => ?_) ?_
              · (go_simp; (with_reducible refine (q1.out _ (by (focus ((repeat (first | with_reducible assumption | with_reducible exact Ch.refl _ _ | with_reducible refine Ch.drew ?_ | with_reducible refine Ch.drewN ?_ _ | with_reducible refine Ch.alloc ?_ _ | with_reducible refine Ch.cellput ?_ (by simp) _ | (with_reducible refine Ch.same ?_ (by with_reducible assumption)) | (with_reducible refine Ch.step ?_ (by with_reducible assumption)))); done)))).mono ?_); rintro e w5 ⟨A5, B5, I5, rfl, hA5, hB5, hI5, hbl5, _⟩; obtain ⟨x0, x1, x2, x3, _⟩ := Ob.all4 (HZ3.out.bl (Bl.trans (by (focus ((repeat (first | with_reducible assumption | exact Bl.refl _ | refine Bl.drew ?_ | refine Bl.drewN ?_ _ | refine Bl.alloc ?_ _ | (refine Bl.trans ?_ (by with_reducible assumption)))); done))) hbl5)); try go_simp)
                refine hK.out _ _ (HK3.out _ (by (focus ((repeat (first | with_reducible assumption | with_reducible exact Ch.refl _ _ | with_reducible refine Ch.drew ?_ | with_reducible refine Ch.drewN ?_ _ | with_reducible refine Ch.alloc ?_ _ | with_reducible refine Ch.cellput ?_ (by simp) _ | (with_reducible refine Ch.same ?_ (by with_reducible assumption)) | (with_reducible refine Ch.step ?_ (by with_reducible assumption)))); done)))) (fun hHeld => ?_)
                clear hK K
                try simp only [Act.put, List.setIfInBounds_toArray, List.set_cons_zero, List.set_cons_succ]
                refine wpAnyH_ready (rs := [7]) (by kernel_rfl) (by simp) ?_
                refine AllReadyH.cons (by rfl) (fun K hK => ?_) ?_
                · go_simp
                  refine hK.out _ _ (HK3.out _ (by (focus ((repeat (first | with_reducible assumption | with_reducible exact Ch.refl _ _ | with_reducible refine Ch.drew ?_ | with_reducible refine Ch.drewN ?_ _ | with_reducible refine Ch.alloc ?_ _ | with_reducible refine Ch.cellput ?_ (by simp) _ | (with_reducible refine Ch.same ?_ (by with_reducible assumption)) | (with_reducible refine Ch.step ?_ (by with_reducible assumption)))); done)))) (fun hHeld => ?_)
                  clear hK K
                  try simp only [Act.put, List.setIfInBounds_toArray, List.set_cons_zero, List.set_cons_succ]
                  refine wpAnyH_ready (rs := [8]) (by kernel_rfl) (by simp) ?_
                  refine AllReadyH.cons (by rfl) (fun K hK => ?_) ?_
                  · (go_simp; (with_reducible refine (q2.out _ (by (focus ((repeat (first | with_reducible assumption | with_reducible exact Ch.refl _ _ | with_reducible refine Ch.drew ?_ | with_reducible refine Ch.drewN ?_ _ | with_reducible refine Ch.alloc ?_ _ | with_reducible refine Ch.cellput ?_ (by simp) _ | (with_reducible refine Ch.same ?_ (by with_reducible assumption)) | (with_reducible refine Ch.step ?_ (by with_reducible assumption)))); done)))).mono ?_); rintro e w6 ⟨A6, B6, I6, rfl, hA6, hB6, hI6, hbl6, _⟩; have hb6 : Bl wc w6 := (by (focus ((repeat (first | with_reducible assumption | exact Bl.refl _ | refine Bl.drew ?_ | refine Bl.drewN ?_ _ | refine Bl.alloc ?_ _ | (refine Bl.trans ?_ (by with_reducible assumption)))); done))); obtain ⟨y0', y1', y2', y3', yf0', yf1', yf2', yf3'⟩ := Ob.all4 (HY3.out.bl hb6); obtain ⟨z0', z1', z2', z3', zf0', zf1', zf2', zf3'⟩ := Ob.all4 (HZ3.out.bl hb6); try go_simp)
                    refine hK.out _ _ (HK3.out _ (by (focus ((repeat (first | with_reducible assumption | with_reducible exact Ch.refl _ _ | with_reducible refine Ch.drew ?_ | with_reducible refine Ch.drewN ?_ _ | with_reducible refine Ch.alloc ?_ _ | with_reducible refine Ch.cellput ?_ (by simp) _ | (with_reducible refine Ch.same ?_ (by with_reducible assumption)) | (with_reducible refine Ch.step ?_ (by with_reducible assumption)))); done)))) (fun hHeld => ?_)
                    clear hK K
                    try simp only [Act.put, List.setIfInBounds_toArray, List.set_cons_zero, List.set_cons_succ]
                    refine wpAnyH_ready (rs := [9]) (by kernel_rfl) (by simp) ?_
                    refine AllReadyH.cons (by rfl) (fun K hK => ?_) ?_
                    · go_simp
                      refine hK.out _ _ (HK3.out _ (by (focus ((repeat (first | with_reducible assumption | with_reducible exact Ch.refl _ _ | with_reducible refine Ch.drew ?_ | with_reducible refine Ch.drewN ?_ _ | with_reducible refine Ch.alloc ?_ _ | with_reducible refine Ch.cellput ?_ (by simp) _ | (with_reducible refine Ch.same ?_ (by with_reducible assumption)) | (with_reducible refine Ch.step ?_ (by with_reducible assumption)))); done)))) (fun hHeld => ?_)
                      clear hK K
                      try simp only [Act.put, List.setIfInBounds_toArray, List.set_cons_zero, List.set_cons_succ]
                      refine' wpAnyH_take (i := 10) (v := _) rfl (by kernel_rfl) (by kernel_rfl) (by kernel_rfl) (fun _ _ _ h => h) (Or.inl ⟨by rfl, ?_⟩) (by assumption) ?_
                      rotate_left
                      · (intro w hSw; (try dsimp only at hSw); go_simp; try with_reducible rfl)
                      simp only [Act.put, List.setIfInBounds_toArray, List.set_cons_zero, List.set_cons_succ]
                      refine wpAnyH_ready (rs := [11]) (by kernel_rfl) (by simp) ?_
                      refine AllReadyH.cons (by rfl) (fun K hK => ?_) ?_
                      · go_simp
                        refine hK.out _ _ (HK3.out _ (by (focus ((repeat (first | with_reducible assumption | with_reducible exact Ch.refl _ _ | with_reducible refine Ch.drew ?_ | with_reducible refine Ch.drewN ?_ _ | with_reducible refine Ch.alloc ?_ _ | with_reducible refine Ch.cellput ?_ (by simp) _ | (with_reducible refine Ch.same ?_ (by with_reducible assumption)) | (with_reducible refine Ch.step ?_ (by with_reducible assumption)))); done)))) (fun hHeld => ?_)
                        clear hK K
                        try simp only [Act.put, List.setIfInBounds_toArray, List.set_cons_zero, List.set_cons_succ]
                        refine wpAnyH_ready (rs := [12]) (by kernel_rfl) (by simp) ?_
                        refine AllReadyH.cons (by rfl) (fun K hK => ?_) ?_
                        · go_simp
                          refine hK.out _ _ (HK3.out _ (by (focus ((repeat (first | with_reducible assumption | with_reducible exact Ch.refl _ _ | with_reducible refine Ch.drew ?_ | with_reducible refine Ch.drewN ?_ _ | with_reducible refine Ch.alloc ?_ _ | with_reducible refine Ch.cellput ?_ (by simp) _ | (with_reducible refine Ch.same ?_ (by with_reducible assumption)) | (with_reducible refine Ch.step ?_ (by with_reducible assumption)))); done)))) (fun hHeld => ?_)
                          clear hK K
                          try simp only [Act.put, List.setIfInBounds_toArray, List.set_cons_zero, List.set_cons_succ]
                          refine wpAnyH_done (by kernel_rfl) ?_ _
                          go_wp2_with fail
                          have hy6 := HY3.out.bl hb6
                          have hz6 := HZ3.out.bl hb6
                          have w06 : w.heap.size ≤ wc.heap.size := Nat.le_trans HW1.out.size HCW3.out.size
                          have n1 : wc.heap.size ≤ w5.heap.size := Bl.size (w := wc) (by (focus ((repeat (first | with_reducible assumption | exact Bl.refl _ | refine Bl.drew ?_ | refine Bl.drewN ?_ _ | refine Bl.alloc ?_ _ | (refine Bl.trans ?_ (by with_reducible assumption)))); done)))
                          refine bodyPost_ret (v := .tuple #[.agg _, .string x, .agg _, .int .i64 0]) (results_ctct (v := .string x) (v2 := .int .i64 0) rfl _ _ ((hy6.set4 _ _ _ _).1.ch ((hz6.ch (hy6.set4 _ _ _ _).2 (by simp)).set4 _ _ _ _).2 (by simp)) ((hz6.ch (hy6.set4 _ _ _ _).2 (by simp)).set4 _ _ _ _).1 rfl rfl rfl rfl Try.underlying52 rfl Try.sizeNode Try.sizeNode) rfl ?_
                          unfold RetPart
                          rw [HP.out]
                          simp only [HX.out]
                          have hch : Ch [w.heap.size + 1, w.heap.size + 1 + 1] w6 ((((((((w6.setCell ⟨w.heap.size + 1, 0, none⟩ (.int .u8 1)).setCell ⟨w.heap.size + 1, 1, none⟩ (.slice A5 m m)).setCell ⟨w.heap.size + 1, 2, none⟩ (.slice B5 m m)).setCell ⟨w.heap.size + 1, 3, none⟩ (.slice I5 0 0)).setCell ⟨w.heap.size + 1 + 1, 0, none⟩ (.int .u8 1)).setCell ⟨w.heap.size + 1 + 1, 1, none⟩ (.slice A6 (keys.length - m) (keys.length - m))).setCell ⟨w.heap.size + 1 + 1, 2, none⟩ (.slice B6 (vals.length - m) (vals.length - m))).setCell ⟨w.heap.size + 1 + 1, 3, none⟩ (.slice I6 0 0)) := (by (focus ((repeat (first | with_reducible assumption | with_reducible exact Ch.refl _ _ | with_reducible refine Ch.drew ?_ | with_reducible refine Ch.drewN ?_ _ | with_reducible refine Ch.alloc ?_ _ | with_reducible refine Ch.cellput ?_ (by simp) _ | (with_reducible refine Ch.same ?_ (by with_reducible assumption)) | (with_reducible refine Ch.step ?_ (by with_reducible assumption)))); done)))
                          have hg3 := HZ3.out.lt
                          have h56 : Bl w5 w6 := (by (focus ((repeat (first | with_reducible assumption | exact Bl.refl _ | refine Bl.drew ?_ | refine Bl.drewN ?_ _ | refine Bl.alloc ?_ _ | (refine Bl.trans ?_ (by with_reducible assumption)))); done)))
                          have key : ∀ {T : TypeId} {n bb : Nat} {cs : List Value} {A' : Option Addr} {c' : Nat}, App w6 bb T 1 (.slice A' n c') n cs → wc.heap.size ≤ bb → Rd _ A' cs := fun a hb => (App.rd (a.ch hch (fun g hg e => by have := a.ge g e; simp at hg; omega))).1
                          refine ⟨_, _, rfl, ⟨A5, _, B5, _, I5, _, by simp only [l1, l2, List.length_nil]; rfl, key (hA5.bl h56) (by simp), key (hB5.bl h56) (by simp), key (hI5.bl h56) (by simp)⟩, ⟨A6, _, B6, _, I6, _, by simp only [l3, l4, List.length_nil]; rfl, key hA6 n1, key hB6 n1, key hI6 n1⟩, ?_⟩
                          exact ((HW1.out.ch [w.heap.size + 1, w.heap.size + 1 + 1]).same HCW3.out |>.thenBl hb6 |>.same hch).bl (by intro g hg; simp at hg; omega)
                        exact AllReadyH.nil
                      exact AllReadyH.nil
                    exact AllReadyH.nil
                  exact AllReadyH.nil
                exact AllReadyH.nil
              refine AllReadyH.cons (by rfl) (fun K hK => ?_) ?_
              · go_simp
                refine hK.out _ _ (HK3.out _ (by (focus ((repeat (first | with_reducible assumption | with_reducible exact Ch.refl _ _ | with_reducible refine Ch.drew ?_ | with_reducible refine Ch.drewN ?_ _ | with_reducible refine Ch.alloc ?_ _ | with_reducible refine Ch.cellput ?_ (by simp) _ | (with_reducible refine Ch.same ?_ (by with_reducible assumption)) | (with_reducible refine Ch.step ?_ (by with_reducible assumption)))); done)))) (fun hHeld => ?_)
                clear hK K
                try simp only [Act.put, List.setIfInBounds_toArray, List.set_cons_zero, List.set_cons_succ]
                refine wpAnyH_ready (rs := [1]) (by kernel_rfl) (by simp) ?_
                refine AllReadyH.cons (by rfl) (fun K hK => ?_) ?_
                · (go_simp; (with_reducible refine (q1.out _ (by (focus ((repeat (first | with_reducible assumption | with_reducible exact Ch.refl _ _ | with_reducible refine Ch.drew ?_ | with_reducible refine Ch.drewN ?_ _ | with_reducible refine Ch.alloc ?_ _ | with_reducible refine Ch.cellput ?_ (by simp) _ | (with_reducible refine Ch.same ?_ (by with_reducible assumption)) | (with_reducible refine Ch.step ?_ (by with_reducible assumption)))); done)))).mono ?_); rintro e w5 ⟨A5, B5, I5, rfl, hA5, hB5, hI5, hbl5, _⟩; obtain ⟨x0, x1, x2, x3, _⟩ := Ob.all4 (HZ3.out.bl (Bl.trans (by (focus ((repeat (first | with_reducible assumption | exact Bl.refl _ | refine Bl.drew ?_ | refine Bl.drewN ?_ _ | refine Bl.alloc ?_ _ | (refine Bl.trans ?_ (by with_reducible assumption)))); done))) hbl5)); try go_simp)
                  refine hK.out _ _ (HK3.out _ (by (focus ((repeat (first | with_reducible assumption | with_reducible exact Ch.refl _ _ | with_reducible refine Ch.drew ?_ | with_reducible refine Ch.drewN ?_ _ | with_reducible refine Ch.alloc ?_ _ | with_reducible refine Ch.cellput ?_ (by simp) _ | (with_reducible refine Ch.same ?_ (by with_reducible assumption)) | (with_reducible refine Ch.step ?_ (by with_reducible assumption)))); done)))) (fun hHeld => ?_)
                  clear hK K
                  try simp only [Act.put, List.setIfInBounds_toArray, List.set_cons_zero, List.set_cons_succ]
                  refine wpAnyH_ready (rs := [8]) (by kernel_rfl) (by simp) ?_
                  refine AllReadyH.cons (by rfl) (fun K hK => ?_) ?_
                  · (go_simp; (with_reducible refine (q2.out _ (by (focus ((repeat (first | with_reducible assumption | with_reducible exact Ch.refl _ _ | with_reducible refine Ch.drew ?_ | with_reducible refine Ch.drewN ?_ _ | with_reducible refine Ch.alloc ?_ _ | with_reducible refine Ch.cellput ?_ (by simp) _ | (with_reducible refine Ch.same ?_ (by with_reducible assumption)) | (with_reducible refine Ch.step ?_ (by with_reducible assumption)))); done)))).mono ?_); rintro e w6 ⟨A6, B6, I6, rfl, hA6, hB6, hI6, hbl6, _⟩; have hb6 : Bl wc w6 := (by (focus ((repeat (first | with_reducible assumption | exact Bl.refl _ | refine Bl.drew ?_ | refine Bl.drewN ?_ _ | refine Bl.alloc ?_ _ | (refine Bl.trans ?_ (by with_reducible assumption)))); done))); obtain ⟨y0', y1', y2', y3', yf0', yf1', yf2', yf3'⟩ := Ob.all4 (HY3.out.bl hb6); obtain ⟨z0', z1', z2', z3', zf0', zf1', zf2', zf3'⟩ := Ob.all4 (HZ3.out.bl hb6); try go_simp)
                    refine hK.out _ _ (HK3.out _ (by (focus ((repeat (first | with_reducible assumption | with_reducible exact Ch.refl _ _ | with_reducible refine Ch.drew ?_ | with_reducible refine Ch.drewN ?_ _ | with_reducible refine Ch.alloc ?_ _ | with_reducible refine Ch.cellput ?_ (by simp) _ | (with_reducible refine Ch.same ?_ (by with_reducible assumption)) | (with_reducible refine Ch.step ?_ (by with_reducible assumption)))); done)))) (fun hHeld => ?_)
                    clear hK K
                    try simp only [Act.put, List.setIfInBounds_toArray, List.set_cons_zero, List.set_cons_succ]
                    refine wpAnyH_ready (rs := [9]) (by kernel_rfl) (by simp) ?_
                    refine AllReadyH.cons (by rfl) (fun K hK => ?_) ?_
                    · go_simp
                      refine hK.out _ _ (HK3.out _ (by (focus ((repeat (first | with_reducible assumption | with_reducible exact Ch.refl _ _ | with_reducible refine Ch.drew ?_ | with_reducible refine Ch.drewN ?_ _ | with_reducible refine Ch.alloc ?_ _ | with_reducible refine Ch.cellput ?_ (by simp) _ | (with_reducible refine Ch.same ?_ (by with_reducible assumption)) | (with_reducible refine Ch.step ?_ (by with_reducible assumption)))); done)))) (fun hHeld => ?_)
                      clear hK K
                      try simp only [Act.put, List.setIfInBounds_toArray, List.set_cons_zero, List.set_cons_succ]
                      refine' wpAnyH_take (i := 10) (v := _) rfl (by kernel_rfl) (by kernel_rfl) (by kernel_rfl) (fun _ _ _ h => h) (Or.inl ⟨by rfl, ?_⟩) (by assumption) ?_
                      rotate_left
                      · (intro w hSw; (try dsimp only at hSw); go_simp; try with_reducible rfl)
                      simp only [Act.put, List.setIfInBounds_toArray, List.set_cons_zero, List.set_cons_succ]
                      refine wpAnyH_ready (rs := [11]) (by kernel_rfl) (by simp) ?_
                      refine AllReadyH.cons (by rfl) (fun K hK => ?_) ?_
                      · go_simp
                        refine hK.out _ _ (HK3.out _ (by (focus ((repeat (first | with_reducible assumption | with_reducible exact Ch.refl _ _ | with_reducible refine Ch.drew ?_ | with_reducible refine Ch.drewN ?_ _ | with_reducible refine Ch.alloc ?_ _ | with_reducible refine Ch.cellput ?_ (by simp) _ | (with_reducible refine Ch.same ?_ (by with_reducible assumption)) | (with_reducible refine Ch.step ?_ (by with_reducible assumption)))); done)))) (fun hHeld => ?_)
                        clear hK K
                        try simp only [Act.put, List.setIfInBounds_toArray, List.set_cons_zero, List.set_cons_succ]
                        refine wpAnyH_ready (rs := [12]) (by kernel_rfl) (by simp) ?_
                        refine AllReadyH.cons (by rfl) (fun K hK => ?_) ?_
                        · go_simp
                          refine hK.out _ _ (HK3.out _ (by (focus ((repeat (first | with_reducible assumption | with_reducible exact Ch.refl _ _ | with_reducible refine Ch.drew ?_ | with_reducible refine Ch.drewN ?_ _ | with_reducible refine Ch.alloc ?_ _ | with_reducible refine Ch.cellput ?_ (by simp) _ | (with_reducible refine Ch.same ?_ (by with_reducible assumption)) | (with_reducible refine Ch.step ?_ (by with_reducible assumption)))); done)))) (fun hHeld => ?_)
                          clear hK K
                          try simp only [Act.put, List.setIfInBounds_toArray, List.set_cons_zero, List.set_cons_succ]
                          refine wpAnyH_done (by kernel_rfl) ?_ _
                          go_wp2_with fail
                          have hy6 := HY3.out.bl hb6
                          have hz6 := HZ3.out.bl hb6
                          have w06 : w.heap.size ≤ wc.heap.size := Nat.le_trans HW1.out.size HCW3.out.size
                          have n1 : wc.heap.size ≤ w5.heap.size := Bl.size (w := wc) (by (focus ((repeat (first | with_reducible assumption | exact Bl.refl _ | refine Bl.drew ?_ | refine Bl.drewN ?_ _ | refine Bl.alloc ?_ _ | (refine Bl.trans ?_ (by with_reducible assumption)))); done)))
                          refine bodyPost_ret (v := .tuple #[.agg _, .string x, .agg _, .int .i64 0]) (results_ctct (v := .string x) (v2 := .int .i64 0) rfl _ _ ((hy6.set4 _ _ _ _).1.ch ((hz6.ch (hy6.set4 _ _ _ _).2 (by simp)).set4 _ _ _ _).2 (by simp)) ((hz6.ch (hy6.set4 _ _ _ _).2 (by simp)).set4 _ _ _ _).1 rfl rfl rfl rfl Try.underlying52 rfl Try.sizeNode Try.sizeNode) rfl ?_
                          unfold RetPart
                          rw [HP.out]
                          simp only [HX.out]
                          have hch : Ch [w.heap.size + 1, w.heap.size + 1 + 1] w6 ((((((((w6.setCell ⟨w.heap.size + 1, 0, none⟩ (.int .u8 1)).setCell ⟨w.heap.size + 1, 1, none⟩ (.slice A5 m m)).setCell ⟨w.heap.size + 1, 2, none⟩ (.slice B5 m m)).setCell ⟨w.heap.size + 1, 3, none⟩ (.slice I5 0 0)).setCell ⟨w.heap.size + 1 + 1, 0, none⟩ (.int .u8 1)).setCell ⟨w.heap.size + 1 + 1, 1, none⟩ (.slice A6 (keys.length - m) (keys.length - m))).setCell ⟨w.heap.size + 1 + 1, 2, none⟩ (.slice B6 (vals.length - m) (vals.length - m))).setCell ⟨w.heap.size + 1 + 1, 3, none⟩ (.slice I6 0 0)) := (by (focus ((repeat (first | with_reducible assumption | with_reducible exact Ch.refl _ _ | with_reducible refine Ch.drew ?_ | with_reducible refine Ch.drewN ?_ _ | with_reducible refine Ch.alloc ?_ _ | with_reducible refine Ch.cellput ?_ (by simp) _ | (with_reducible refine Ch.same ?_ (by with_reducible assumption)) | (with_reducible refine Ch.step ?_ (by with_reducible assumption)))); done)))
                          have hg3 := HZ3.out.lt
                          have h56 : Bl w5 w6 := (by (focus ((repeat (first | with_reducible assumption | exact Bl.refl _ | refine Bl.drew ?_ | refine Bl.drewN ?_ _ | refine Bl.alloc ?_ _ | (refine Bl.trans ?_ (by with_reducible assumption)))); done)))
                          have key : ∀ {T : TypeId} {n bb : Nat} {cs : List Value} {A' : Option Addr} {c' : Nat}, App w6 bb T 1 (.slice A' n c') n cs → wc.heap.size ≤ bb → Rd _ A' cs := fun a hb => (App.rd (a.ch hch (fun g hg e => by have := a.ge g e; simp at hg; omega))).1
                          refine ⟨_, _, rfl, ⟨A5, _, B5, _, I5, _, by simp only [l1, l2, List.length_nil]; rfl, key (hA5.bl h56) (by simp), key (hB5.bl h56) (by simp), key (hI5.bl h56) (by simp)⟩, ⟨A6, _, B6, _, I6, _, by simp only [l3, l4, List.length_nil]; rfl, key hA6 n1, key hB6 n1, key hI6 n1⟩, ?_⟩
                          exact ((HW1.out.ch [w.heap.size + 1, w.heap.size + 1 + 1]).same HCW3.out |>.thenBl hb6 |>.same hch).bl (by intro g hg; simp at hg; omega)
                        exact AllReadyH.nil
                      exact AllReadyH.nil
                    exact AllReadyH.nil
                  exact AllReadyH.nil
                exact AllReadyH.nil
              exact AllReadyH.nil
            refine AllReadyH.cons (by rfl) (fun K hK => ?_) ?_
            · go_simp
              refine hK.out _ _ (HK3.out _ (by (focus ((repeat (first | with_reducible assumption | with_reducible exact Ch.refl _ _ | with_reducible refine Ch.drew ?_ | with_reducible refine Ch.drewN ?_ _ | with_reducible refine Ch.alloc ?_ _ | with_reducible refine Ch.cellput ?_ (by simp) _ | (with_reducible refine Ch.same ?_ (by with_reducible assumption)) | (with_reducible refine Ch.step ?_ (by with_reducible assumption)))); done)))) (fun hHeld => ?_)
              clear hK K
              try simp only [Act.put, List.setIfInBounds_toArray, List.set_cons_zero, List.set_cons_succ]
              refine wpAnyH_ready (rs := [0]) (by kernel_rfl) (by simp) ?_
              refine AllReadyH.cons (by rfl) (fun K hK => ?_) ?_
              · go_simp
                refine hK.out _ _ (HK3.out _ (by (focus ((repeat (first | with_reducible assumption | with_reducible exact Ch.refl _ _ | with_reducible refine Ch.drew ?_ | with_reducible refine Ch.drewN ?_ _ | with_reducible refine Ch.alloc ?_ _ | with_reducible refine Ch.cellput ?_ (by simp) _ | (with_reducible refine Ch.same ?_ (by with_reducible assumption)) | (with_reducible refine Ch.step ?_ (by with_reducible assumption)))); done)))) (fun hHeld => ?_)
                clear hK K
                try simp only [Act.put, List.setIfInBounds_toArray, List.set_cons_zero, List.set_cons_succ]
                refine wpAnyH_ready (rs := [1]) (by kernel_rfl) (by simp) ?_
                refine AllReadyH.cons (by rfl) (fun K hK => ?_) ?_
                · (go_simp; (with_reducible refine (q1.out _ (by (focus ((repeat (first | with_reducible assumption | with_reducible exact Ch.refl _ _ | with_reducible refine Ch.drew ?_ | with_reducible refine Ch.drewN ?_ _ | with_reducible refine Ch.alloc ?_ _ | with_reducible refine Ch.cellput ?_ (by simp) _ | (with_reducible refine Ch.same ?_ (by with_reducible assumption)) | (with_reducible refine Ch.step ?_ (by with_reducible assumption)))); done)))).mono ?_); rintro e w5 ⟨A5, B5, I5, rfl, hA5, hB5, hI5, hbl5, _⟩; obtain ⟨x0, x1, x2, x3, _⟩ := Ob.all4 (HZ3.out.bl (Bl.trans (by (focus ((repeat (first | with_reducible assumption | exact Bl.refl _ | refine Bl.drew ?_ | refine Bl.drewN ?_ _ | refine Bl.alloc ?_ _ | (refine Bl.trans ?_ (by with_reducible assumption)))); done))) hbl5)); try go_simp)
                  refine hK.out _ _ (HK3.out _ (by (focus ((repeat (first | with_reducible assumption | with_reducible exact Ch.refl _ _ | with_reducible refine Ch.drew ?_ | with_reducible refine Ch.drewN ?_ _ | with_reducible refine Ch.alloc ?_ _ | with_reducible refine Ch.cellput ?_ (by simp) _ | (with_reducible refine Ch.same ?_ (by with_reducible assumption)) | (with_reducible refine Ch.step ?_ (by with_reducible assumption)))); done)))) (fun hHeld => ?_)
                  clear hK K
                  try simp only [Act.put, List.setIfInBounds_toArray, List.set_cons_zero, List.set_cons_succ]
                  refine wpAnyH_ready (rs := [8]) (by kernel_rfl) (by simp) ?_
                  refine AllReadyH.cons (by rfl) (fun K hK => ?_) ?_
                  · (go_simp; (with_reducible refine (q2.out _ (by (focus ((repeat (first | with_reducible assumption | with_reducible exact Ch.refl _ _ | with_reducible refine Ch.drew ?_ | with_reducible refine Ch.drewN ?_ _ | with_reducible refine Ch.alloc ?_ _ | with_reducible refine Ch.cellput ?_ (by simp) _ | (with_reducible refine Ch.same ?_ (by with_reducible assumption)) | (with_reducible refine Ch.step ?_ (by with_reducible assumption)))); done)))).mono ?_); rintro e w6 ⟨A6, B6, I6, rfl, hA6, hB6, hI6, hbl6, _⟩; have hb6 : Bl wc w6 := (by (focus ((repeat (first | with_reducible assumption | exact Bl.refl _ | refine Bl.drew ?_ | refine Bl.drewN ?_ _ | refine Bl.alloc ?_ _ | (refine Bl.trans ?_ (by with_reducible assumption)))); done))); obtain ⟨y0', y1', y2', y3', yf0', yf1', yf2', yf3'⟩ := Ob.all4 (HY3.out.bl hb6); obtain ⟨z0', z1', z2', z3', zf0', zf1', zf2', zf3'⟩ := Ob.all4 (HZ3.out.bl hb6); try go_simp)
                    refine hK.out _ _ (HK3.out _ (by (focus ((repeat (first | with_reducible assumption | with_reducible exact Ch.refl _ _ | with_reducible refine Ch.drew ?_ | with_reducible refine Ch.drewN ?_ _ | with_reducible refine Ch.alloc ?_ _ | with_reducible refine Ch.cellput ?_ (by simp) _ | (with_reducible refine Ch.same ?_ (by with_reducible assumption)) | (with_reducible refine Ch.step ?_ (by with_reducible assumption)))); done)))) (fun hHeld => ?_)
                    clear hK K
                    try simp only [Act.put, List.setIfInBounds_toArray, List.set_cons_zero, List.set_cons_succ]
                    refine wpAnyH_ready (rs := [9]) (by kernel_rfl) (by simp) ?_
                    refine AllReadyH.cons (by rfl) (fun K hK => ?_) ?_
                    · go_simp
                      refine hK.out _ _ (HK3.out _ (by (focus ((repeat (first | with_reducible assumption | with_reducible exact Ch.refl _ _ | with_reducible refine Ch.drew ?_ | with_reducible refine Ch.drewN ?_ _ | with_reducible refine Ch.alloc ?_ _ | with_reducible refine Ch.cellput ?_ (by simp) _ | (with_reducible refine Ch.same ?_ (by with_reducible assumption)) | (with_reducible refine Ch.step ?_ (by with_reducible assumption)))); done)))) (fun hHeld => ?_)
                      clear hK K
                      try simp only [Act.put, List.setIfInBounds_toArray, List.set_cons_zero, List.set_cons_succ]
                      refine' wpAnyH_take (i := 10) (v := _) rfl (by kernel_rfl) (by kernel_rfl) (by kernel_rfl) (fun _ _ _ h => h) (Or.inl ⟨by rfl, ?_⟩) (by assumption) ?_
                      rotate_left
                      · (intro w hSw; (try dsimp only at hSw); go_simp; try with_reducible rfl)
                      simp only [Act.put, List.setIfInBounds_toArray, List.set_cons_zero, List.set_cons_succ]
                      refine wpAnyH_ready (rs := [11]) (by kernel_rfl) (by simp) ?_
                      refine AllReadyH.cons (by rfl) (fun K hK => ?_) ?_
                      · go_simp
                        refine hK.out _ _ (HK3.out _ (by (focus ((repeat (first | with_reducible assumption | with_reducible exact Ch.refl _ _ | with_reducible refine Ch.drew ?_ | with_reducible refine Ch.drewN ?_ _ | with_reducible refine Ch.alloc ?_ _ | with_reducible refine Ch.cellput ?_ (by simp) _ | (with_reducible refine Ch.same ?_ (by with_reducible assumption)) | (with_reducible refine Ch.step ?_ (by with_reducible assumption)))); done)))) (fun hHeld => ?_)
                        clear hK K
                        try simp only [Act.put, List.setIfInBounds_toArray, List.set_cons_zero, List.set_cons_succ]
                        refine wpAnyH_ready (rs := [12]) (by kernel_rfl) (by simp) ?_
                        refine AllReadyH.cons (by rfl) (fun K hK => ?_) ?_
                        · go_simp
                          refine hK.out _ _ (HK3.out _ (by (focus ((repeat (first | with_reducible assumption | with_reducible exact Ch.refl _ _ | with_reducible refine Ch.drew ?_ | with_reducible refine Ch.drewN ?_ _ | with_reducible refine Ch.alloc ?_ _ | with_reducible refine Ch.cellput ?_ (by simp) _ | (with_reducible refine Ch.same ?_ (by with_reducible assumption)) | (with_reducible refine Ch.step ?_ (by with_reducible assumption)))); done)))) (fun hHeld => ?_)
                          clear hK K
                          try simp only [Act.put, List.setIfInBounds_toArray, List.set_cons_zero, List.set_cons_succ]
                          refine wpAnyH_done (by kernel_rfl) ?_ _
                          go_wp2_with fail
                          have hy6 := HY3.out.bl hb6
                          have hz6 := HZ3.out.bl hb6
                          have w06 : w.heap.size ≤ wc.heap.size := Nat.le_trans HW1.out.size HCW3.out.size
                          have n1 : wc.heap.size ≤ w5.heap.size := Bl.size (w := wc) (by (focus ((repeat (first | with_reducible assumption | exact Bl.refl _ | refine Bl.drew ?_ | refine Bl.drewN ?_ _ | refine Bl.alloc ?_ _ | (refine Bl.trans ?_ (by with_reducible assumption)))); done)))
                          refine bodyPost_ret (v := .tuple #[.agg _, .string x, .agg _, .int .i64 0]) (results_ctct (v := .string x) (v2 := .int .i64 0) rfl _ _ ((hy6.set4 _ _ _ _).1.ch ((hz6.ch (hy6.set4 _ _ _ _).2 (by simp)).set4 _ _ _ _).2 (by simp)) ((hz6.ch (hy6.set4 _ _ _ _).2 (by simp)).set4 _ _ _ _).1 rfl rfl rfl rfl Try.underlying52 rfl Try.sizeNode Try.sizeNode) rfl ?_
                          unfold RetPart
                          rw [HP.out]
                          simp only [HX.out]
                          have hch : Ch [w.heap.size + 1, w.heap.size + 1 + 1] w6 ((((((((w6.setCell ⟨w.heap.size + 1, 0, none⟩ (.int .u8 1)).setCell ⟨w.heap.size + 1, 1, none⟩ (.slice A5 m m)).setCell ⟨w.heap.size + 1, 2, none⟩ (.slice B5 m m)).setCell ⟨w.heap.size + 1, 3, none⟩ (.slice I5 0 0)).setCell ⟨w.heap.size + 1 + 1, 0, none⟩ (.int .u8 1)).setCell ⟨w.heap.size + 1 + 1, 1, none⟩ (.slice A6 (keys.length - m) (keys.length - m))).setCell ⟨w.heap.size + 1 + 1, 2, none⟩ (.slice B6 (vals.length - m) (vals.length - m))).setCell ⟨w.heap.size + 1 + 1, 3, none⟩ (.slice I6 0 0)) := (by (focus ((repeat (first | with_reducible assumption | with_reducible exact Ch.refl _ _ | with_reducible refine Ch.drew ?_ | with_reducible refine Ch.drewN ?_ _ | with_reducible refine Ch.alloc ?_ _ | with_reducible refine Ch.cellput ?_ (by simp) _ | (with_reducible refine Ch.same ?_ (by with_reducible assumption)) | (with_reducible refine Ch.step ?_ (by with_reducible assumption)))); done)))
                          have hg3 := HZ3.out.lt
                          have h56 : Bl w5 w6 := (by (focus ((repeat (first | with_reducible assumption | exact Bl.refl _ | refine Bl.drew ?_ | refine Bl.drewN ?_ _ | refine Bl.alloc ?_ _ | (refine Bl.trans ?_ (by with_reducible assumption)))); done)))
                          have key : ∀ {T : TypeId} {n bb : Nat} {cs : List Value} {A' : Option Addr} {c' : Nat}, App w6 bb T 1 (.slice A' n c') n cs → wc.heap.size ≤ bb → Rd _ A' cs := fun a hb => (App.rd (a.ch hch (fun g hg e => by have := a.ge g e; simp at hg; omega))).1
                          refine ⟨_, _, rfl, ⟨A5, _, B5, _, I5, _, by simp only [l1, l2, List.length_nil]; rfl, key (hA5.bl h56) (by simp), key (hB5.bl h56) (by simp), key (hI5.bl h56) (by simp)⟩, ⟨A6, _, B6, _, I6, _, by simp only [l3, l4, List.length_nil]; rfl, key hA6 n1, key hB6 n1, key hI6 n1⟩, ?_⟩
                          exact ((HW1.out.ch [w.heap.size + 1, w.heap.size + 1 + 1]).same HCW3.out |>.thenBl hb6 |>.same hch).bl (by intro g hg; simp at hg; omega)
                        exact AllReadyH.nil
                      exact AllReadyH.nil
                    exact AllReadyH.nil
                  exact AllReadyH.nil
                exact AllReadyH.nil
              exact AllReadyH.nil
            exact AllReadyH.nil
    · subst hk2
      subst hvn
      obtain ⟨m, hm⟩ : ∃ m : Nat, m = keys.length / 2 := ⟨_, rfl⟩
      have HP := Lib.hid (show nodePart 2 keys [] kids = ⟨⟨2, keys.take m, [], kids.take (m + 1)⟩, keys.getD m .empty, ⟨2, keys.drop (m + 1), [], kids.drop (m + 1)⟩, 0⟩ by unfold nodePart; rw [if_neg hbad, if_neg (by decide), ← hm])
      have HVL := Lib.hid hkl
      have hvm : m + 1 ≤ kids.length := by omega
      have em : ((keys.length : Int) / 2) = (m : Int) := by omega
      have ew : wrap64 ((m : Int) + 1) = (m : Int) + 1 := by unfold wrap64; omega
      have ew2 : IntKind.i64.wrap ((m : Int) + 1) = (m : Int) + 1 := by rw [IntKind.wrap_i64]; omega
      have hmk : m < keys.length := by omega
      obtain ⟨x, hx⟩ := get_some keys m hmk
      obtain ⟨b, o, rfl, hcx⟩ := RK.out.get hx
      simp only [sv] at hcx
      have HCX := Lib.hid hcx
      have HX := Lib.hid (getD_of hx ByteArray.empty)
      clear hbad hr hko hno hkl hm
      clear hx hcx
      simp only [List.length_nil] at HO1 o2 o3 ⊢
      go_upto_region 10 with (fail)
      clear em
      have HK : Hid (∀ w' : World, Ch [w.heap.size + 1, w.heap.size + 1 + 1] w1 w' → w'.cell? ⟨w.heap.size, 0, none⟩ = some (.int .u8 2) ∧ w'.cell? ⟨w.heap.size, 1, none⟩ = some (.slice (some ⟨b, o, none⟩) keys.length c) ∧ w'.cell? ⟨w.heap.size, 2, none⟩ = some (.slice B 0 d) ∧ w'.cell? ⟨w.heap.size, 3, none⟩ = some (.slice I kids.length ci) ∧ Ch [w.heap.size + 1, w.heap.size + 1 + 1] w1 w') := fun w' h => by
        obtain ⟨a0, a1, a2, a3, _⟩ := Ob.all4 (HO1.out.ch h (by simp <;> omega))
        exact ⟨a0, a1, a2, a3, h⟩
      go_cut [] (fun wx => Hid (Ob wx (w.heap.size + 1) 52 #[.int .u8 2, .slice (some ⟨b, o, none⟩) m m, .slice none 0 0, .slice I (m + 1) (m + 1)] ∧ Ch [w.heap.size + 1] w1 wx))
      case first =>
          have r1 := cut_hm (P := Try.prog) 49 9 1 Try.underlying49 Try.sizeStr (some ⟨b, o, none⟩) keys.length c m (by omega)
          have r2 := cut_hm (P := Try.prog) 50 3 1 Try.underlying50 Try.sizeInt I kids.length ci (m + 1) (by omega)
          push_cast at r2
          go_region_held3 (fun w' => w'.cell? ⟨w.heap.size, 0, none⟩ = some (.int .u8 2) ∧ w'.cell? ⟨w.heap.size, 1, none⟩ = some (.slice (some ⟨b, o, none⟩) keys.length c) ∧ w'.cell? ⟨w.heap.size, 2, none⟩ = some (.slice B 0 d) ∧ w'.cell? ⟨w.heap.size, 3, none⟩ = some (.slice I kids.length ci) ∧ Ch [w.heap.size + 1, w.heap.size + 1 + 1] w1 w')
            (exact HK.out _ (by (focus ((repeat (first | with_reducible assumption | with_reducible exact Ch.refl _ _ | with_reducible refine Ch.drew ?_ | with_reducible refine Ch.drewN ?_ _ | with_reducible refine Ch.alloc ?_ _ | with_reducible refine Ch.cellput ?_ (by simp) _ | (with_reducible refine Ch.same ?_ (by with_reducible assumption)) | (with_reducible refine Ch.step ?_ (by with_reducible assumption)))); done))))
            (first
              | fail)
          all_goals
            go_wp2_with fail
            go_meet
            case rel => exact ⟨((HY1.out.bl (Bl.refl _).drew).set4 _ _ _ _).1, (by (focus ((repeat (first | with_reducible assumption | with_reducible exact Ch.refl _ _ | with_reducible refine Ch.drew ?_ | with_reducible refine Ch.drewN ?_ _ | with_reducible refine Ch.alloc ?_ _ | with_reducible refine Ch.cellput ?_ (by simp) _ | (with_reducible refine Ch.same ?_ (by with_reducible assumption)) | (with_reducible refine Ch.step ?_ (by with_reducible assumption)))); done)))⟩
      case rest =>
          obtain ⟨hY2, hcw⟩ := hcut.out
          have HY2 := Lib.hid hY2
          have HZ2 := Lib.hid (HZ1.out.ch hcw (by simp))
          have HCW := Lib.hid (hcw.mono (M := [w.heap.size + 1, w.heap.size + 1 + 1]) (by simp))
          obtain ⟨o0', o1', o2', o3', _⟩ := HK.out _ HCW.out
          obtain ⟨z0', z1', z2', z3', zf0', zf1', zf2', zf3'⟩ := Ob.all4 HZ2.out
          clear hY2 hcw y0 y1 y2 y3 yf0 yf1 yf2 yf3 z0 z1 z2 z3 zf0 zf1 zf2 zf3 o0 o1 o2 o3
          go_upto_region 11 with (fail)
          go_cut [] (fun wx => Hid (Ob wx (w.heap.size + 1) 52 #[.int .u8 2, .slice (some ⟨b, o, none⟩) m m, .slice none 0 0, .slice I (m + 1) (m + 1)] ∧ Ob wx (w.heap.size + 1 + 1) 52 #[.int .u8 2, .slice (cutAddr (some ⟨b, o, none⟩) 1 (m + 1) c) (keys.length - (m + 1)) (c - (m + 1)), .slice none 0 0, .slice (cutAddr I 1 (m + 1) ci) (kids.length - (m + 1)) (ci - (m + 1))] ∧ Ch [w.heap.size + 1, w.heap.size + 1 + 1] w1 wx))
          case first =>
            have r1 := cut_l (P := Try.prog) 49 9 1 Try.underlying49 Try.sizeStr (some ⟨b, o, none⟩) keys.length c (m + 1) (by omega)
            have r2 := cut_l (P := Try.prog) 50 3 1 Try.underlying50 Try.sizeInt I kids.length ci (m + 1) (by omega)
            push_cast at r1 r2
            have hcw2 := HCW.out
            go_region_held3 (fun w' => w'.cell? ⟨w.heap.size, 0, none⟩ = some (.int .u8 2) ∧ w'.cell? ⟨w.heap.size, 1, none⟩ = some (.slice (some ⟨b, o, none⟩) keys.length c) ∧ w'.cell? ⟨w.heap.size, 2, none⟩ = some (.slice B 0 d) ∧ w'.cell? ⟨w.heap.size, 3, none⟩ = some (.slice I kids.length ci) ∧ Ch [w.heap.size + 1, w.heap.size + 1 + 1] w1 w')
              (exact HK.out _ (by (focus ((repeat (first | with_reducible assumption | with_reducible exact Ch.refl _ _ | with_reducible refine Ch.drew ?_ | with_reducible refine Ch.drewN ?_ _ | with_reducible refine Ch.alloc ?_ _ | with_reducible refine Ch.cellput ?_ (by simp) _ | (with_reducible refine Ch.same ?_ (by with_reducible assumption)) | (with_reducible refine Ch.step ?_ (by with_reducible assumption)))); done))))
              (first
                | fail)
            all_goals
              go_wp2_with fail
              go_meet
              case rel => exact ⟨HY2.out.ch ((Ch.drew (Ch.refl [w.heap.size + 1 + 1] wc)).same ((HZ2.out.bl (Bl.refl _).drew).set4 _ _ _ _).2) (by simp), ((HZ2.out.bl (Bl.refl _).drew).set4 _ _ _ _).1, (by (focus ((repeat (first | with_reducible assumption | with_reducible exact Ch.refl _ _ | with_reducible refine Ch.drew ?_ | with_reducible refine Ch.drewN ?_ _ | with_reducible refine Ch.alloc ?_ _ | with_reducible refine Ch.cellput ?_ (by simp) _ | (with_reducible refine Ch.same ?_ (by with_reducible assumption)) | (with_reducible refine Ch.step ?_ (by with_reducible assumption)))); done)))⟩
          case rest =>
            obtain ⟨hY3, hZ3, hcw3⟩ := hcut.out
            have HY3 := Lib.hid hY3
            have HZ3 := Lib.hid hZ3
            have HCW3 := Lib.hid hcw3
            clear hY3 hZ3
            have l1 : (keys.take m).length = m := by simp; omega
            have l2 : (kids.take (m + 1)).length = m + 1 := by simp; omega
            have l3 : (keys.drop (m + 1)).length = keys.length - (m + 1) := by simp
            have l4 : (kids.drop (m + 1)).length = kids.length - (m + 1) := by simp
            have HRA : Hid (∀ w', Ch [w.heap.size + 1, w.heap.size + 1 + 1] w1 w' → Rd w' (some ⟨b, o, none⟩) (keys.map sv)) := fun w' h => RK.out.later HW1.out h (by intro g hg; simp at hg; omega)
            have HRB : Hid (∀ w', Ch [w.heap.size + 1, w.heap.size + 1 + 1] w1 w' → Rd w' I (kids.map iv)) := fun w' h => RN.out.later HW1.out h (by intro g hg; simp at hg; omega)
            have HRX : Hid (∀ w', Ch [w.heap.size + 1, w.heap.size + 1 + 1] w1 w' → w'.cell? ⟨b, o + m, none⟩ = some (.string x)) := fun w' h => ((HW1.out.ch [w.heap.size + 1, w.heap.size + 1 + 1]).same h |>.bl (by intro g hg; simp at hg; omega)).cellAt HCX.out
            have q1 : Hid (∀ w', Ch [w.heap.size + 1, w.heap.size + 1 + 1] w1 w' → Calls Try.prog 89 #[.agg #[.int .u8 2, .slice (some ⟨b, o, none⟩) m m, .slice none 0 0, .slice I (m + 1) (m + 1)]] w' (RetFit 2 (keys.take m) [] (kids.take (m + 1)) w')) := fun w' h => by
              have h1 := node_own 2 (some ⟨b, o, none⟩) none I (keys.take m) [] (kids.take (m + 1)) m 0 (m + 1) _ (by simp; omega) (by simp) (by simp; omega)
                (by rw [List.map_take]; exact (HRA.out w' h).take m) (Rd.nil _ _) (by rw [List.map_take]; exact (HRB.out w' h).take (m + 1))
              rw [l1, l2] at h1
              exact h1
            have q2 : Hid (∀ w', Ch [w.heap.size + 1, w.heap.size + 1 + 1] w1 w' → Calls Try.prog 89 #[.agg #[.int .u8 2, .slice (cutAddr (some ⟨b, o, none⟩) 1 (m + 1) c) (keys.length - (m + 1)) (c - (m + 1)), .slice none 0 0, .slice (cutAddr I 1 (m + 1) ci) (kids.length - (m + 1)) (ci - (m + 1))]] w' (RetFit 2 (keys.drop (m + 1)) [] (kids.drop (m + 1)) w')) := fun w' h => by
              have h1 := node_own 2 (cutAddr (some ⟨b, o, none⟩) 1 (m + 1) c) none (cutAddr I 1 (m + 1) ci) (keys.drop (m + 1)) [] (kids.drop (m + 1)) (c - (m + 1)) 0 (ci - (m + 1)) _ (by simp; omega) (by simp) (by simp; omega)
                (by have := (HRA.out w' h).cutTo 1 (m + 1) c (by intro e; simp; omega); simpa [List.map_drop] using this) (Rd.nil _ _) (by have := (HRB.out w' h).cutTo 1 (m + 1) ci (by intro e; simp; omega); simpa [List.map_drop] using this)
              rw [l3, l4] at h1
              exact h1
            have HK3 : Hid (∀ w' : World, Ch [w.heap.size + 1, w.heap.size + 1 + 1] w1 w' → w'.cell? ⟨w.heap.size, 0, none⟩ = some (.int .u8 2) ∧ w'.cell? ⟨w.heap.size, 1, none⟩ = some (.slice (some ⟨b, o, none⟩) keys.length c) ∧ w'.cell? ⟨w.heap.size, 2, none⟩ = some (.slice B 0 d) ∧ w'.cell? ⟨w.heap.size, 3, none⟩ = some (.slice I kids.length ci) ∧ w'.cell? ⟨b, o + m, none⟩ = some (.string x) ∧ Ch [w.heap.size + 1, w.heap.size + 1 + 1] w1 w') := fun w' h => by
              obtain ⟨a0, a1, a2, a3, h2⟩ := HK.out w' h
              exact ⟨a0, a1, a2, a3, HRX.out w' h, h2⟩
            obtain ⟨y0, y1, y2, y3, yf0, yf1, yf2, yf3⟩ := Ob.all4 HY3.out
            obtain ⟨z0, z1, z2, z3, zf0, zf1, zf2, zf3⟩ := Ob.all4 HZ3.out
            clear o0' o1' o2' o3' z0' z1' z2' z3' zf0' zf1' zf2' zf3'
            go_upto_region 12 with (fail)
            refine wp_region_held_drew (S := (fun w' => w'.cell? ⟨w.heap.size, 0, none⟩ = some (.int .u8 2) ∧ w'.cell? ⟨w.heap.size, 1, none⟩ = some (.slice (some ⟨b, o, none⟩) keys.length c) ∧ w'.cell? ⟨w.heap.size, 2, none⟩ = some (.slice B 0 d) ∧ w'.cell? ⟨w.heap.size, 3, none⟩ = some (.slice I kids.length ci) ∧ w'.cell? ⟨b, o + m, none⟩ = some (.string x) ∧ Ch [w.heap.size + 1, w.heap.size + 1 + 1] w1 w')) (by kernel_rfl) (HK3.out _ (by (focus ((repeat (first | with_reducible assumption | with_reducible exact Ch.refl _ _ | with_reducible refine Ch.drew ?_ | with_reducible refine Ch.drewN ?_ _ | with_reducible refine Ch.alloc ?_ _ | with_reducible refine Ch.cellput ?_ (by simp) _ | (with_reducible refine Ch.same ?_ (by with_reducible assumption)) | (with_reducible refine Ch.step ?_ (by with_reducible assumption)))); done)))) (fun hHeld => ?_)
            refine' wpAnyH_take (i := 2) (v := _) rfl (by kernel_rfl) (by kernel_rfl) (by kernel_rfl) (fun _ _ _ h => h) (Or.inl ⟨by rfl, ?_⟩) (by assumption) ?_
            rotate_left
            · (intro w hSw; (try dsimp only at hSw); go_simp; try with_reducible rfl)
            simp only [Act.put, List.setIfInBounds_toArray, List.set_cons_zero, List.set_cons_succ]
            refine' wpAnyH_take (i := 3) (v := _) rfl (by kernel_rfl) (by kernel_rfl) (by kernel_rfl) (fun _ _ _ h => h) (Or.inl ⟨by rfl, ?_⟩) (by assumption) ?_
            rotate_left
            · (intro w hSw; (try dsimp only at hSw); go_simp; try with_reducible rfl)
            simp only [Act.put, List.setIfInBounds_toArray, List.set_cons_zero, List.set_cons_succ]
            refine' wpAnyH_take (i := 4) (v := _) rfl (by kernel_rfl) (by kernel_rfl) (by kernel_rfl) (fun _ _ _ h => h) (Or.inl ⟨by rfl, ?_⟩) (by assumption) ?_
            rotate_left
            · (intro w hSw; (try dsimp only at hSw); go_simp; try with_reducible rfl)
            simp only [Act.put, List.setIfInBounds_toArray, List.set_cons_zero, List.set_cons_succ]
            refine' wpAnyH_take (i := 5) (v := _) rfl (by kernel_rfl) (by kernel_rfl) (by kernel_rfl) (fun _ _ _ h => h) (Or.inl ⟨by rfl, ?_⟩) (by assumption) ?_
            rotate_left
            · (intro w hSw; (try dsimp only at hSw); go_simp; try with_reducible rfl)
            simp only [Act.put, List.setIfInBounds_toArray, List.set_cons_zero, List.set_cons_succ]
            refine' wpAnyH_take (i := 6) (v := _) rfl (by kernel_rfl) (by kernel_rfl) (by kernel_rfl) (fun _ _ _ h => h) (Or.inl ⟨by rfl, ?_⟩) (by assumption) ?_
            rotate_left
            · (intro w hSw; (try dsimp only at hSw); go_simp; try with_reducible rfl)
            simp only [Act.put, List.setIfInBounds_toArray, List.set_cons_zero, List.set_cons_succ]
            refine wpAnyH_ready (rs := [0, 7]) (by kernel_rfl) (by simp) ?_
            refine AllReadyH.cons (by rfl) (fun K hK => ?_) ?_
            · go_simp
              refine hK.out _ _ (HK3.out _ (by (focus ((repeat (first | with_reducible assumption | with_reducible exact Ch.refl _ _ | with_reducible refine Ch.drew ?_ | with_reducible refine Ch.drewN ?_ _ | with_reducible refine Ch.alloc ?_ _ | with_reducible refine Ch.cellput ?_ (by simp) _ | (with_reducible refine Ch.same ?_ (by with_reducible assumption)) | (with_reducible refine Ch.step ?_ (by with_reducible assumption)))); done)))) (fun hHeld => ?_)
              clear hK K
              try simp only [Act.put, List.setIfInBounds_toArray, List.set_cons_zero, List.set_cons_succ]
              refine wpAnyH_ready (rs := [1, 7]) (by kernel_rfl) (by simp) ?_
              refine AllReadyH.cons (by rfl) (fun K hK => ?_) ?_
              · (go_simp; (with_reducible refine (q1.out _ (by (focus ((repeat (first | with_reducible assumption | with_reducible exact Ch.refl _ _ | with_reducible refine Ch.drew ?_ | with_reducible refine Ch.drewN ?_ _ | with_reducible refine Ch.alloc ?_ _ | with_reducible refine Ch.cellput ?_ (by simp) _ | (with_reducible refine Ch.same ?_ (by with_reducible assumption)) | (with_reducible refine Ch.step ?_ (by with_reducible assumption)))); done)))).mono ?_); rintro e w5 ⟨A5, B5, I5, rfl, hA5, hB5, hI5, hbl5, _⟩; obtain ⟨x0, x1, x2, x3, _⟩ := Ob.all4 (HZ3.out.bl (Bl.trans (by (focus ((repeat (first | with_reducible assumption | exact Bl.refl _ | refine Bl.drew ?_ | refine Bl.drewN ?_ _ | refine Bl.alloc ?_ _ | (refine Bl.trans ?_ (by with_reducible assumption)))); done))) hbl5)); try go_simp)
                refine hK.out _ _ (HK3.out _ (by (focus ((repeat (first | with_reducible assumption | with_reducible exact Ch.refl _ _ | with_reducible refine Ch.drew ?_ | with_reducible refine Ch.drewN ?_ _ | with_reducible refine Ch.alloc ?_ _ | with_reducible refine Ch.cellput ?_ (by simp) _ | (with_reducible refine Ch.same ?_ (by with_reducible assumption)) | (with_reducible refine Ch.step ?_ (by with_reducible assumption)))); done)))) (fun hHeld => ?_)
                clear hK K
                try simp only [Act.put, List.setIfInBounds_toArray, List.set_cons_zero, List.set_cons_succ]
                refine wpAnyH_ready (rs := [7]) (by kernel_rfl) (by simp) ?_
                refine AllReadyH.cons (by rfl) (fun K hK => ?_) ?_
                · go_simp
                  refine hK.out _ _ (HK3.out _ (by (focus ((repeat (first | with_reducible assumption | with_reducible exact Ch.refl _ _ | with_reducible refine Ch.drew ?_ | with_reducible refine Ch.drewN ?_ _ | with_reducible refine Ch.alloc ?_ _ | with_reducible refine Ch.cellput ?_ (by simp) _ | (with_reducible refine Ch.same ?_ (by with_reducible assumption)) | (with_reducible refine Ch.step ?_ (by with_reducible assumption)))); done)))) (fun hHeld => ?_)
                  clear hK K
                  try simp only [Act.put, List.setIfInBounds_toArray, List.set_cons_zero, List.set_cons_succ]
                  refine wpAnyH_ready (rs := [8]) (by kernel_rfl) (by simp) ?_
                  refine AllReadyH.cons (by rfl) (fun K hK => ?_) ?_
                  · (go_simp; (with_reducible refine (q2.out _ (by (focus ((repeat (first | with_reducible assumption | with_reducible exact Ch.refl _ _ | with_reducible refine Ch.drew ?_ | with_reducible refine Ch.drewN ?_ _ | with_reducible refine Ch.alloc ?_ _ | with_reducible refine Ch.cellput ?_ (by simp) _ | (with_reducible refine Ch.same ?_ (by with_reducible assumption)) | (with_reducible refine Ch.step ?_ (by with_reducible assumption)))); done)))).mono ?_); rintro e w6 ⟨A6, B6, I6, rfl, hA6, hB6, hI6, hbl6, _⟩; have hb6 : Bl wc w6 := (by (focus ((repeat (first | with_reducible assumption | exact Bl.refl _ | refine Bl.drew ?_ | refine Bl.drewN ?_ _ | refine Bl.alloc ?_ _ | (refine Bl.trans ?_ (by with_reducible assumption)))); done))); obtain ⟨y0', y1', y2', y3', yf0', yf1', yf2', yf3'⟩ := Ob.all4 (HY3.out.bl hb6); obtain ⟨z0', z1', z2', z3', zf0', zf1', zf2', zf3'⟩ := Ob.all4 (HZ3.out.bl hb6); try go_simp)
                    refine hK.out _ _ (HK3.out _ (by (focus ((repeat (first | with_reducible assumption | with_reducible exact Ch.refl _ _ | with_reducible refine Ch.drew ?_ | with_reducible refine Ch.drewN ?_ _ | with_reducible refine Ch.alloc ?_ _ | with_reducible refine Ch.cellput ?_ (by simp) _ | (with_reducible refine Ch.same ?_ (by with_reducible assumption)) | (with_reducible refine Ch.step ?_ (by with_reducible assumption)))); done)))) (fun hHeld => ?_)
                    clear hK K
                    try simp only [Act.put, List.setIfInBounds_toArray, List.set_cons_zero, List.set_cons_succ]
                    refine wpAnyH_ready (rs := [9]) (by kernel_rfl) (by simp) ?_
                    refine AllReadyH.cons (by rfl) (fun K hK => ?_) ?_
                    · go_simp
                      refine hK.out _ _ (HK3.out _ (by (focus ((repeat (first | with_reducible assumption | with_reducible exact Ch.refl _ _ | with_reducible refine Ch.drew ?_ | with_reducible refine Ch.drewN ?_ _ | with_reducible refine Ch.alloc ?_ _ | with_reducible refine Ch.cellput ?_ (by simp) _ | (with_reducible refine Ch.same ?_ (by with_reducible assumption)) | (with_reducible refine Ch.step ?_ (by with_reducible assumption)))); done)))) (fun hHeld => ?_)
                      clear hK K
                      try simp only [Act.put, List.setIfInBounds_toArray, List.set_cons_zero, List.set_cons_succ]
                      refine' wpAnyH_take (i := 10) (v := _) rfl (by kernel_rfl) (by kernel_rfl) (by kernel_rfl) (fun _ _ _ h => h) (Or.inl ⟨by rfl, ?_⟩) (by assumption) ?_
                      rotate_left
                      · (intro w hSw; (try dsimp only at hSw); go_simp; try with_reducible rfl)
                      simp only [Act.put, List.setIfInBounds_toArray, List.set_cons_zero, List.set_cons_succ]
                      refine wpAnyH_ready (rs := [11]) (by kernel_rfl) (by simp) ?_
                      refine AllReadyH.cons (by rfl) (fun K hK => ?_) ?_
                      · go_simp
                        refine hK.out _ _ (HK3.out _ (by (focus ((repeat (first | with_reducible assumption | with_reducible exact Ch.refl _ _ | with_reducible refine Ch.drew ?_ | with_reducible refine Ch.drewN ?_ _ | with_reducible refine Ch.alloc ?_ _ | with_reducible refine Ch.cellput ?_ (by simp) _ | (with_reducible refine Ch.same ?_ (by with_reducible assumption)) | (with_reducible refine Ch.step ?_ (by with_reducible assumption)))); done)))) (fun hHeld => ?_)
                        clear hK K
                        try simp only [Act.put, List.setIfInBounds_toArray, List.set_cons_zero, List.set_cons_succ]
                        refine wpAnyH_ready (rs := [12]) (by kernel_rfl) (by simp) ?_
                        refine AllReadyH.cons (by rfl) (fun K hK => ?_) ?_
                        · go_simp
                          refine hK.out _ _ (HK3.out _ (by (focus ((repeat (first | with_reducible assumption | with_reducible exact Ch.refl _ _ | with_reducible refine Ch.drew ?_ | with_reducible refine Ch.drewN ?_ _ | with_reducible refine Ch.alloc ?_ _ | with_reducible refine Ch.cellput ?_ (by simp) _ | (with_reducible refine Ch.same ?_ (by with_reducible assumption)) | (with_reducible refine Ch.step ?_ (by with_reducible assumption)))); done)))) (fun hHeld => ?_)
                          clear hK K
                          try simp only [Act.put, List.setIfInBounds_toArray, List.set_cons_zero, List.set_cons_succ]
                          refine wpAnyH_done (by kernel_rfl) ?_ _
                          go_wp2_with fail
                          have hy6 := HY3.out.bl hb6
                          have hz6 := HZ3.out.bl hb6
                          have w06 : w.heap.size ≤ wc.heap.size := Nat.le_trans HW1.out.size HCW3.out.size
                          have n1 : wc.heap.size ≤ w5.heap.size := Bl.size (w := wc) (by (focus ((repeat (first | with_reducible assumption | exact Bl.refl _ | refine Bl.drew ?_ | refine Bl.drewN ?_ _ | refine Bl.alloc ?_ _ | (refine Bl.trans ?_ (by with_reducible assumption)))); done)))
                          refine bodyPost_ret (v := .tuple #[.agg _, .string x, .agg _, .int .i64 0]) (results_ctct (v := .string x) (v2 := .int .i64 0) rfl _ _ ((hy6.set4 _ _ _ _).1.ch ((hz6.ch (hy6.set4 _ _ _ _).2 (by simp)).set4 _ _ _ _).2 (by simp)) ((hz6.ch (hy6.set4 _ _ _ _).2 (by simp)).set4 _ _ _ _).1 rfl rfl rfl rfl Try.underlying52 rfl Try.sizeNode Try.sizeNode) rfl ?_
                          unfold RetPart
                          rw [HP.out]
                          simp only [HX.out]
                          have hch : Ch [w.heap.size + 1, w.heap.size + 1 + 1] w6 ((((((((w6.setCell ⟨w.heap.size + 1, 0, none⟩ (.int .u8 2)).setCell ⟨w.heap.size + 1, 1, none⟩ (.slice A5 m m)).setCell ⟨w.heap.size + 1, 2, none⟩ (.slice B5 0 0)).setCell ⟨w.heap.size + 1, 3, none⟩ (.slice I5 (m + 1) (m + 1))).setCell ⟨w.heap.size + 1 + 1, 0, none⟩ (.int .u8 2)).setCell ⟨w.heap.size + 1 + 1, 1, none⟩ (.slice A6 (keys.length - (m + 1)) (keys.length - (m + 1)))).setCell ⟨w.heap.size + 1 + 1, 2, none⟩ (.slice B6 0 0)).setCell ⟨w.heap.size + 1 + 1, 3, none⟩ (.slice I6 (kids.length - (m + 1)) (kids.length - (m + 1)))) := (by (focus ((repeat (first | with_reducible assumption | with_reducible exact Ch.refl _ _ | with_reducible refine Ch.drew ?_ | with_reducible refine Ch.drewN ?_ _ | with_reducible refine Ch.alloc ?_ _ | with_reducible refine Ch.cellput ?_ (by simp) _ | (with_reducible refine Ch.same ?_ (by with_reducible assumption)) | (with_reducible refine Ch.step ?_ (by with_reducible assumption)))); done)))
                          have hg3 := HZ3.out.lt
                          have h56 : Bl w5 w6 := (by (focus ((repeat (first | with_reducible assumption | exact Bl.refl _ | refine Bl.drew ?_ | refine Bl.drewN ?_ _ | refine Bl.alloc ?_ _ | (refine Bl.trans ?_ (by with_reducible assumption)))); done)))
                          have key : ∀ {T : TypeId} {n bb : Nat} {cs : List Value} {A' : Option Addr} {c' : Nat}, App w6 bb T 1 (.slice A' n c') n cs → wc.heap.size ≤ bb → Rd _ A' cs := fun a hb => (App.rd (a.ch hch (fun g hg e => by have := a.ge g e; simp at hg; omega))).1
                          refine ⟨_, _, rfl, ⟨A5, _, B5, _, I5, _, by simp only [l1, l2, List.length_nil]; rfl, key (hA5.bl h56) (by simp), key (hB5.bl h56) (by simp), key (hI5.bl h56) (by simp)⟩, ⟨A6, _, B6, _, I6, _, by simp only [l3, l4, List.length_nil]; rfl, key hA6 n1, key hB6 n1, key hI6 n1⟩, ?_⟩
                          exact ((HW1.out.ch [w.heap.size + 1, w.heap.size + 1 + 1]).same HCW3.out |>.thenBl hb6 |>.same hch).bl (by intro g hg; simp at hg; omega)
                        exact AllReadyH.nil
                      exact AllReadyH.nil
                    exact AllReadyH.nil
                  exact AllReadyH.nil
                exact AllReadyH.nil
              refine AllReadyH.cons (by rfl) (fun K hK => ?_) ?_
              · go_simp
                refine hK.out _ _ (HK3.out _ (by (focus ((repeat (first | with_reducible assumption | with_reducible exact Ch.refl _ _ | with_reducible refine Ch.drew ?_ | with_reducible refine Ch.drewN ?_ _ | with_reducible refine Ch.alloc ?_ _ | with_reducible refine Ch.cellput ?_ (by simp) _ | (with_reducible refine Ch.same ?_ (by with_reducible assumption)) | (with_reducible refine Ch.step ?_ (by with_reducible assumption)))); done)))) (fun hHeld => ?_)
                clear hK K
                try simp only [Act.put, List.setIfInBounds_toArray, List.set_cons_zero, List.set_cons_succ]
                refine wpAnyH_ready (rs := [1]) (by kernel_rfl) (by simp) ?_
                refine AllReadyH.cons (by rfl) (fun K hK => ?_) ?_
                · (go_simp; (with_reducible refine (q1.out _ (by (focus ((repeat (first | with_reducible assumption | with_reducible exact Ch.refl _ _ | with_reducible refine Ch.drew ?_ | with_reducible refine Ch.drewN ?_ _ | with_reducible refine Ch.alloc ?_ _ | with_reducible refine Ch.cellput ?_ (by simp) _ | (with_reducible refine Ch.same ?_ (by with_reducible assumption)) | (with_reducible refine Ch.step ?_ (by with_reducible assumption)))); done)))).mono ?_); rintro e w5 ⟨A5, B5, I5, rfl, hA5, hB5, hI5, hbl5, _⟩; obtain ⟨x0, x1, x2, x3, _⟩ := Ob.all4 (HZ3.out.bl (Bl.trans (by (focus ((repeat (first | with_reducible assumption | exact Bl.refl _ | refine Bl.drew ?_ | refine Bl.drewN ?_ _ | refine Bl.alloc ?_ _ | (refine Bl.trans ?_ (by with_reducible assumption)))); done))) hbl5)); try go_simp)
                  refine hK.out _ _ (HK3.out _ (by (focus ((repeat (first | with_reducible assumption | with_reducible exact Ch.refl _ _ | with_reducible refine Ch.drew ?_ | with_reducible refine Ch.drewN ?_ _ | with_reducible refine Ch.alloc ?_ _ | with_reducible refine Ch.cellput ?_ (by simp) _ | (with_reducible refine Ch.same ?_ (by with_reducible assumption)) | (with_reducible refine Ch.step ?_ (by with_reducible assumption)))); done)))) (fun hHeld => ?_)
                  clear hK K
                  try simp only [Act.put, List.setIfInBounds_toArray, List.set_cons_zero, List.set_cons_succ]
                  refine wpAnyH_ready (rs := [8]) (by kernel_rfl) (by simp) ?_
                  refine AllReadyH.cons (by rfl) (fun K hK => ?_) ?_
                  · (go_simp; (with_reducible refine (q2.out _ (by (focus ((repeat (first | with_reducible assumption | with_reducible exact Ch.refl _ _ | with_reducible refine Ch.drew ?_ | with_reducible refine Ch.drewN ?_ _ | with_reducible refine Ch.alloc ?_ _ | with_reducible refine Ch.cellput ?_ (by simp) _ | (with_reducible refine Ch.same ?_ (by with_reducible assumption)) | (with_reducible refine Ch.step ?_ (by with_reducible assumption)))); done)))).mono ?_); rintro e w6 ⟨A6, B6, I6, rfl, hA6, hB6, hI6, hbl6, _⟩; have hb6 : Bl wc w6 := (by (focus ((repeat (first | with_reducible assumption | exact Bl.refl _ | refine Bl.drew ?_ | refine Bl.drewN ?_ _ | refine Bl.alloc ?_ _ | (refine Bl.trans ?_ (by with_reducible assumption)))); done))); obtain ⟨y0', y1', y2', y3', yf0', yf1', yf2', yf3'⟩ := Ob.all4 (HY3.out.bl hb6); obtain ⟨z0', z1', z2', z3', zf0', zf1', zf2', zf3'⟩ := Ob.all4 (HZ3.out.bl hb6); try go_simp)
                    refine hK.out _ _ (HK3.out _ (by (focus ((repeat (first | with_reducible assumption | with_reducible exact Ch.refl _ _ | with_reducible refine Ch.drew ?_ | with_reducible refine Ch.drewN ?_ _ | with_reducible refine Ch.alloc ?_ _ | with_reducible refine Ch.cellput ?_ (by simp) _ | (with_reducible refine Ch.same ?_ (by with_reducible assumption)) | (with_reducible refine Ch.step ?_ (by with_reducible assumption)))); done)))) (fun hHeld => ?_)
                    clear hK K
                    try simp only [Act.put, List.setIfInBounds_toArray, List.set_cons_zero, List.set_cons_succ]
                    refine wpAnyH_ready (rs := [9]) (by kernel_rfl) (by simp) ?_
                    refine AllReadyH.cons (by rfl) (fun K hK => ?_) ?_
                    · go_simp
                      refine hK.out _ _ (HK3.out _ (by (focus ((repeat (first | with_reducible assumption | with_reducible exact Ch.refl _ _ | with_reducible refine Ch.drew ?_ | with_reducible refine Ch.drewN ?_ _ | with_reducible refine Ch.alloc ?_ _ | with_reducible refine Ch.cellput ?_ (by simp) _ | (with_reducible refine Ch.same ?_ (by with_reducible assumption)) | (with_reducible refine Ch.step ?_ (by with_reducible assumption)))); done)))) (fun hHeld => ?_)
                      clear hK K
                      try simp only [Act.put, List.setIfInBounds_toArray, List.set_cons_zero, List.set_cons_succ]
                      refine' wpAnyH_take (i := 10) (v := _) rfl (by kernel_rfl) (by kernel_rfl) (by kernel_rfl) (fun _ _ _ h => h) (Or.inl ⟨by rfl, ?_⟩) (by assumption) ?_
                      rotate_left
                      · (intro w hSw; (try dsimp only at hSw); go_simp; try with_reducible rfl)
                      simp only [Act.put, List.setIfInBounds_toArray, List.set_cons_zero, List.set_cons_succ]
                      refine wpAnyH_ready (rs := [11]) (by kernel_rfl) (by simp) ?_
                      refine AllReadyH.cons (by rfl) (fun K hK => ?_) ?_
                      · go_simp
                        refine hK.out _ _ (HK3.out _ (by (focus ((repeat (first | with_reducible assumption | with_reducible exact Ch.refl _ _ | with_reducible refine Ch.drew ?_ | with_reducible refine Ch.drewN ?_ _ | with_reducible refine Ch.alloc ?_ _ | with_reducible refine Ch.cellput ?_ (by simp) _ | (with_reducible refine Ch.same ?_ (by with_reducible assumption)) | (with_reducible refine Ch.step ?_ (by with_reducible assumption)))); done)))) (fun hHeld => ?_)
                        clear hK K
                        try simp only [Act.put, List.setIfInBounds_toArray, List.set_cons_zero, List.set_cons_succ]
                        refine wpAnyH_ready (rs := [12]) (by kernel_rfl) (by simp) ?_
                        refine AllReadyH.cons (by rfl) (fun K hK => ?_) ?_
                        · go_simp
                          refine hK.out _ _ (HK3.out _ (by (focus ((repeat (first | with_reducible assumption | with_reducible exact Ch.refl _ _ | with_reducible refine Ch.drew ?_ | with_reducible refine Ch.drewN ?_ _ | with_reducible refine Ch.alloc ?_ _ | with_reducible refine Ch.cellput ?_ (by simp) _ | (with_reducible refine Ch.same ?_ (by with_reducible assumption)) | (with_reducible refine Ch.step ?_ (by with_reducible assumption)))); done)))) (fun hHeld => ?_)
                          clear hK K
                          try simp only [Act.put, List.setIfInBounds_toArray, List.set_cons_zero, List.set_cons_succ]
                          refine wpAnyH_done (by kernel_rfl) ?_ _
                          go_wp2_with fail
                          have hy6 := HY3.out.bl hb6
                          have hz6 := HZ3.out.bl hb6
                          have w06 : w.heap.size ≤ wc.heap.size := Nat.le_trans HW1.out.size HCW3.out.size
                          have n1 : wc.heap.size ≤ w5.heap.size := Bl.size (w := wc) (by (focus ((repeat (first | with_reducible assumption | exact Bl.refl _ | refine Bl.drew ?_ | refine Bl.drewN ?_ _ | refine Bl.alloc ?_ _ | (refine Bl.trans ?_ (by with_reducible assumption)))); done)))
                          refine bodyPost_ret (v := .tuple #[.agg _, .string x, .agg _, .int .i64 0]) (results_ctct (v := .string x) (v2 := .int .i64 0) rfl _ _ ((hy6.set4 _ _ _ _).1.ch ((hz6.ch (hy6.set4 _ _ _ _).2 (by simp)).set4 _ _ _ _).2 (by simp)) ((hz6.ch (hy6.set4 _ _ _ _).2 (by simp)).set4 _ _ _ _).1 rfl rfl rfl rfl Try.underlying52 rfl Try.sizeNode Try.sizeNode) rfl ?_
                          unfold RetPart
                          rw [HP.out]
                          simp only [HX.out]
                          have hch : Ch [w.heap.size + 1, w.heap.size + 1 + 1] w6 ((((((((w6.setCell ⟨w.heap.size + 1, 0, none⟩ (.int .u8 2)).setCell ⟨w.heap.size + 1, 1, none⟩ (.slice A5 m m)).setCell ⟨w.heap.size + 1, 2, none⟩ (.slice B5 0 0)).setCell ⟨w.heap.size + 1, 3, none⟩ (.slice I5 (m + 1) (m + 1))).setCell ⟨w.heap.size + 1 + 1, 0, none⟩ (.int .u8 2)).setCell ⟨w.heap.size + 1 + 1, 1, none⟩ (.slice A6 (keys.length - (m + 1)) (keys.length - (m + 1)))).setCell ⟨w.heap.size + 1 + 1, 2, none⟩ (.slice B6 0 0)).setCell ⟨w.heap.size + 1 + 1, 3, none⟩ (.slice I6 (kids.length - (m + 1)) (kids.length - (m + 1)))) := (by (focus ((repeat (first | with_reducible assumption | with_reducible exact Ch.refl _ _ | with_reducible refine Ch.drew ?_ | with_reducible refine Ch.drewN ?_ _ | with_reducible refine Ch.alloc ?_ _ | with_reducible refine Ch.cellput ?_ (by simp) _ | (with_reducible refine Ch.same ?_ (by with_reducible assumption)) | (with_reducible refine Ch.step ?_ (by with_reducible assumption)))); done)))
                          have hg3 := HZ3.out.lt
                          have h56 : Bl w5 w6 := (by (focus ((repeat (first | with_reducible assumption | exact Bl.refl _ | refine Bl.drew ?_ | refine Bl.drewN ?_ _ | refine Bl.alloc ?_ _ | (refine Bl.trans ?_ (by with_reducible assumption)))); done)))
                          have key : ∀ {T : TypeId} {n bb : Nat} {cs : List Value} {A' : Option Addr} {c' : Nat}, App w6 bb T 1 (.slice A' n c') n cs → wc.heap.size ≤ bb → Rd _ A' cs := fun a hb => (App.rd (a.ch hch (fun g hg e => by have := a.ge g e; simp at hg; omega))).1
                          refine ⟨_, _, rfl, ⟨A5, _, B5, _, I5, _, by simp only [l1, l2, List.length_nil]; rfl, key (hA5.bl h56) (by simp), key (hB5.bl h56) (by simp), key (hI5.bl h56) (by simp)⟩, ⟨A6, _, B6, _, I6, _, by simp only [l3, l4, List.length_nil]; rfl, key hA6 n1, key hB6 n1, key hI6 n1⟩, ?_⟩
                          exact ((HW1.out.ch [w.heap.size + 1, w.heap.size + 1 + 1]).same HCW3.out |>.thenBl hb6 |>.same hch).bl (by intro g hg; simp at hg; omega)
                        exact AllReadyH.nil
                      exact AllReadyH.nil
                    exact AllReadyH.nil
                  exact AllReadyH.nil
                exact AllReadyH.nil
              exact AllReadyH.nil
            refine AllReadyH.cons (by rfl) (fun K hK => ?_) ?_
            · go_simp
              refine hK.out _ _ (HK3.out _ (by (focus ((repeat (first | with_reducible assumption | with_reducible exact Ch.refl _ _ | with_reducible refine Ch.drew ?_ | with_reducible refine Ch.drewN ?_ _ | with_reducible refine Ch.alloc ?_ _ | with_reducible refine Ch.cellput ?_ (by simp) _ | (with_reducible refine Ch.same ?_ (by with_reducible assumption)) | (with_reducible refine Ch.step ?_ (by with_reducible assumption)))); done)))) (fun hHeld => ?_)
              clear hK K
              try simp only [Act.put, List.setIfInBounds_toArray, List.set_cons_zero, List.set_cons_succ]
              refine wpAnyH_ready (rs := [0]) (by kernel_rfl) (by simp) ?_
              refine AllReadyH.cons (by rfl) (fun K hK => ?_) ?_
              · go_simp
                refine hK.out _ _ (HK3.out _ (by (focus ((repeat (first | with_reducible assumption | with_reducible exact Ch.refl _ _ | with_reducible refine Ch.drew ?_ | with_reducible refine Ch.drewN ?_ _ | with_reducible refine Ch.alloc ?_ _ | with_reducible refine Ch.cellput ?_ (by simp) _ | (with_reducible refine Ch.same ?_ (by with_reducible assumption)) | (with_reducible refine Ch.step ?_ (by with_reducible assumption)))); done)))) (fun hHeld => ?_)
                clear hK K
                try simp only [Act.put, List.setIfInBounds_toArray, List.set_cons_zero, List.set_cons_succ]
                refine wpAnyH_ready (rs := [1]) (by kernel_rfl) (by simp) ?_
                refine AllReadyH.cons (by rfl) (fun K hK => ?_) ?_
                · (go_simp; (with_reducible refine (q1.out _ (by (focus ((repeat (first | with_reducible assumption | with_reducible exact Ch.refl _ _ | with_reducible refine Ch.drew ?_ | with_reducible refine Ch.drewN ?_ _ | with_reducible refine Ch.alloc ?_ _ | with_reducible refine Ch.cellput ?_ (by simp) _ | (with_reducible refine Ch.same ?_ (by with_reducible assumption)) | (with_reducible refine Ch.step ?_ (by with_reducible assumption)))); done)))).mono ?_); rintro e w5 ⟨A5, B5, I5, rfl, hA5, hB5, hI5, hbl5, _⟩; obtain ⟨x0, x1, x2, x3, _⟩ := Ob.all4 (HZ3.out.bl (Bl.trans (by (focus ((repeat (first | with_reducible assumption | exact Bl.refl _ | refine Bl.drew ?_ | refine Bl.drewN ?_ _ | refine Bl.alloc ?_ _ | (refine Bl.trans ?_ (by with_reducible assumption)))); done))) hbl5)); try go_simp)
                  refine hK.out _ _ (HK3.out _ (by (focus ((repeat (first | with_reducible assumption | with_reducible exact Ch.refl _ _ | with_reducible refine Ch.drew ?_ | with_reducible refine Ch.drewN ?_ _ | with_reducible refine Ch.alloc ?_ _ | with_reducible refine Ch.cellput ?_ (by simp) _ | (with_reducible refine Ch.same ?_ (by with_reducible assumption)) | (with_reducible refine Ch.step ?_ (by with_reducible assumption)))); done)))) (fun hHeld => ?_)
                  clear hK K
                  try simp only [Act.put, List.setIfInBounds_toArray, List.set_cons_zero, List.set_cons_succ]
                  refine wpAnyH_ready (rs := [8]) (by kernel_rfl) (by simp) ?_
                  refine AllReadyH.cons (by rfl) (fun K hK => ?_) ?_
                  · (go_simp; (with_reducible refine (q2.out _ (by (focus ((repeat (first | with_reducible assumption | with_reducible exact Ch.refl _ _ | with_reducible refine Ch.drew ?_ | with_reducible refine Ch.drewN ?_ _ | with_reducible refine Ch.alloc ?_ _ | with_reducible refine Ch.cellput ?_ (by simp) _ | (with_reducible refine Ch.same ?_ (by with_reducible assumption)) | (with_reducible refine Ch.step ?_ (by with_reducible assumption)))); done)))).mono ?_); rintro e w6 ⟨A6, B6, I6, rfl, hA6, hB6, hI6, hbl6, _⟩; have hb6 : Bl wc w6 := (by (focus ((repeat (first | with_reducible assumption | exact Bl.refl _ | refine Bl.drew ?_ | refine Bl.drewN ?_ _ | refine Bl.alloc ?_ _ | (refine Bl.trans ?_ (by with_reducible assumption)))); done))); obtain ⟨y0', y1', y2', y3', yf0', yf1', yf2', yf3'⟩ := Ob.all4 (HY3.out.bl hb6); obtain ⟨z0', z1', z2', z3', zf0', zf1', zf2', zf3'⟩ := Ob.all4 (HZ3.out.bl hb6); try go_simp)
                    refine hK.out _ _ (HK3.out _ (by (focus ((repeat (first | with_reducible assumption | with_reducible exact Ch.refl _ _ | with_reducible refine Ch.drew ?_ | with_reducible refine Ch.drewN ?_ _ | with_reducible refine Ch.alloc ?_ _ | with_reducible refine Ch.cellput ?_ (by simp) _ | (with_reducible refine Ch.same ?_ (by with_reducible assumption)) | (with_reducible refine Ch.step ?_ (by with_reducible assumption)))); done)))) (fun hHeld => ?_)
                    clear hK K
                    try simp only [Act.put, List.setIfInBounds_toArray, List.set_cons_zero, List.set_cons_succ]
                    refine wpAnyH_ready (rs := [9]) (by kernel_rfl) (by simp) ?_
                    refine AllReadyH.cons (by rfl) (fun K hK => ?_) ?_
                    · go_simp
                      refine hK.out _ _ (HK3.out _ (by (focus ((repeat (first | with_reducible assumption | with_reducible exact Ch.refl _ _ | with_reducible refine Ch.drew ?_ | with_reducible refine Ch.drewN ?_ _ | with_reducible refine Ch.alloc ?_ _ | with_reducible refine Ch.cellput ?_ (by simp) _ | (with_reducible refine Ch.same ?_ (by with_reducible assumption)) | (with_reducible refine Ch.step ?_ (by with_reducible assumption)))); done)))) (fun hHeld => ?_)
                      clear hK K
                      try simp only [Act.put, List.setIfInBounds_toArray, List.set_cons_zero, List.set_cons_succ]
                      refine' wpAnyH_take (i := 10) (v := _) rfl (by kernel_rfl) (by kernel_rfl) (by kernel_rfl) (fun _ _ _ h => h) (Or.inl ⟨by rfl, ?_⟩) (by assumption) ?_
                      rotate_left
                      · (intro w hSw; (try dsimp only at hSw); go_simp; try with_reducible rfl)
                      simp only [Act.put, List.setIfInBounds_toArray, List.set_cons_zero, List.set_cons_succ]
                      refine wpAnyH_ready (rs := [11]) (by kernel_rfl) (by simp) ?_
                      refine AllReadyH.cons (by rfl) (fun K hK => ?_) ?_
                      · go_simp
                        refine hK.out _ _ (HK3.out _ (by (focus ((repeat (first | with_reducible assumption | with_reducible exact Ch.refl _ _ | with_reducible refine Ch.drew ?_ | with_reducible refine Ch.drewN ?_ _ | with_reducible refine Ch.alloc ?_ _ | with_reducible refine Ch.cellput ?_ (by simp) _ | (with_reducible refine Ch.same ?_ (by with_reducible assumption)) | (with_reducible refine Ch.step ?_ (by with_reducible assumption)))); done)))) (fun hHeld => ?_)
                        clear hK K
                        try simp only [Act.put, List.setIfInBounds_toArray, List.set_cons_zero, List.set_cons_succ]
                        refine wpAnyH_ready (rs := [12]) (by kernel_rfl) (by simp) ?_
                        refine AllReadyH.cons (by rfl) (fun K hK => ?_) ?_
                        · go_simp
                          refine hK.out _ _ (HK3.out _ (by (focus ((repeat (first | with_reducible assumption | with_reducible exact Ch.refl _ _ | with_reducible refine Ch.drew ?_ | with_reducible refine Ch.drewN ?_ _ | with_reducible refine Ch.alloc ?_ _ | with_reducible refine Ch.cellput ?_ (by simp) _ | (with_reducible refine Ch.same ?_ (by with_reducible assumption)) | (with_reducible refine Ch.step ?_ (by with_reducible assumption)))); done)))) (fun hHeld => ?_)
                          clear hK K
                          try simp only [Act.put, List.setIfInBounds_toArray, List.set_cons_zero, List.set_cons_succ]
                          refine wpAnyH_done (by kernel_rfl) ?_ _
                          go_wp2_with fail
                          have hy6 := HY3.out.bl hb6
                          have hz6 := HZ3.out.bl hb6
                          have w06 : w.heap.size ≤ wc.heap.size := Nat.le_trans HW1.out.size HCW3.out.size
                          have n1 : wc.heap.size ≤ w5.heap.size := Bl.size (w := wc) (by (focus ((repeat (first | with_reducible assumption | exact Bl.refl _ | refine Bl.drew ?_ | refine Bl.drewN ?_ _ | refine Bl.alloc ?_ _ | (refine Bl.trans ?_ (by with_reducible assumption)))); done)))
                          refine bodyPost_ret (v := .tuple #[.agg _, .string x, .agg _, .int .i64 0]) (results_ctct (v := .string x) (v2 := .int .i64 0) rfl _ _ ((hy6.set4 _ _ _ _).1.ch ((hz6.ch (hy6.set4 _ _ _ _).2 (by simp)).set4 _ _ _ _).2 (by simp)) ((hz6.ch (hy6.set4 _ _ _ _).2 (by simp)).set4 _ _ _ _).1 rfl rfl rfl rfl Try.underlying52 rfl Try.sizeNode Try.sizeNode) rfl ?_
                          unfold RetPart
                          rw [HP.out]
                          simp only [HX.out]
                          have hch : Ch [w.heap.size + 1, w.heap.size + 1 + 1] w6 ((((((((w6.setCell ⟨w.heap.size + 1, 0, none⟩ (.int .u8 2)).setCell ⟨w.heap.size + 1, 1, none⟩ (.slice A5 m m)).setCell ⟨w.heap.size + 1, 2, none⟩ (.slice B5 0 0)).setCell ⟨w.heap.size + 1, 3, none⟩ (.slice I5 (m + 1) (m + 1))).setCell ⟨w.heap.size + 1 + 1, 0, none⟩ (.int .u8 2)).setCell ⟨w.heap.size + 1 + 1, 1, none⟩ (.slice A6 (keys.length - (m + 1)) (keys.length - (m + 1)))).setCell ⟨w.heap.size + 1 + 1, 2, none⟩ (.slice B6 0 0)).setCell ⟨w.heap.size + 1 + 1, 3, none⟩ (.slice I6 (kids.length - (m + 1)) (kids.length - (m + 1)))) := (by (focus ((repeat (first | with_reducible assumption | with_reducible exact Ch.refl _ _ | with_reducible refine Ch.drew ?_ | with_reducible refine Ch.drewN ?_ _ | with_reducible refine Ch.alloc ?_ _ | with_reducible refine Ch.cellput ?_ (by simp) _ | (with_reducible refine Ch.same ?_ (by with_reducible assumption)) | (with_reducible refine Ch.step ?_ (by with_reducible assumption)))); done)))
                          have hg3 := HZ3.out.lt
                          have h56 : Bl w5 w6 := (by (focus ((repeat (first | with_reducible assumption | exact Bl.refl _ | refine Bl.drew ?_ | refine Bl.drewN ?_ _ | refine Bl.alloc ?_ _ | (refine Bl.trans ?_ (by with_reducible assumption)))); done)))
                          have key : ∀ {T : TypeId} {n bb : Nat} {cs : List Value} {A' : Option Addr} {c' : Nat}, App w6 bb T 1 (.slice A' n c') n cs → wc.heap.size ≤ bb → Rd _ A' cs := fun a hb => (App.rd (a.ch hch (fun g hg e => by have := a.ge g e; simp at hg; omega))).1
                          refine ⟨_, _, rfl, ⟨A5, _, B5, _, I5, _, by simp only [l1, l2, List.length_nil]; rfl, key (hA5.bl h56) (by simp), key (hB5.bl h56) (by simp), key (hI5.bl h56) (by simp)⟩, ⟨A6, _, B6, _, I6, _, by simp only [l3, l4, List.length_nil]; rfl, key hA6 n1, key hB6 n1, key hI6 n1⟩, ?_⟩
                          exact ((HW1.out.ch [w.heap.size + 1, w.heap.size + 1 + 1]).same HCW3.out |>.thenBl hb6 |>.same hch).bl (by intro g hg; simp at hg; omega)
                        exact AllReadyH.nil
                      exact AllReadyH.nil
                    exact AllReadyH.nil
                  exact AllReadyH.nil
                exact AllReadyH.nil
              exact AllReadyH.nil
            exact AllReadyH.nil
end Go.Proofs.Ytedmamchfgkkfaa
/- Layer 18 (node): what two nodes are put together to, as a plain function. No program in sight. -/
set_option linter.unusedVariables false
set_option linter.unusedSimpArgs false
namespace Go.Proofs.Ytedmamchfgkkfaa
open Go.RowKit

def joinOK (ks : List ByteArray) (sep : ByteArray) (ks2 : List ByteArray) : Bool := ks.all (fun x => sLt x sep) && ks2.all (fun x => !sLt x sep)
def joinEnd (k : Int) (ks vs : List ByteArray) (is : List Int) : NodeR := if nodeRight k ks vs is 12 13 = false then nodeNo 2 else ⟨k, ks, vs, is, 0⟩
def nodeJoin (a : Nd) (sep : ByteArray) (b : Nd) : NodeR :=
  if nodeRight a.k a.keys a.vals a.kids 12 13 = false ∨ nodeRight b.k b.keys b.vals b.kids 12 13 = false ∨ a.k ≠ b.k ∨ sep.size < 1 ∨ 40 < sep.size then nodeNo 2
  else if a.k = 2 then joinEnd 2 (a.keys ++ [sep] ++ b.keys) [] (a.kids ++ b.kids)
  else if joinOK a.keys sep b.keys = false then nodeNo 2
  else joinEnd a.k (a.keys ++ b.keys) (a.vals ++ b.vals) []
theorem keysOK_lt {keys : List ByteArray} (h : keysOK keys = true) {j : Nat} {x y : ByteArray} (hx : keys[j]? = some x) (hy : keys[j + 1]? = some y) : sLt x y = true := by
  have hj := (List.getElem?_eq_some_iff.1 hy).1
  have h1 := List.all_eq_true.1 h (j + 1) (List.mem_range.2 hj)
  rcases keyOK_cases hy with ⟨hf, _⟩ | ⟨hf, _⟩ | ⟨_, _, _, hf, _⟩ | ⟨h0, _⟩ | ⟨z, _, hz, _, _, _, h3⟩
  · rw [hf] at h1; cases h1
  · rw [hf] at h1; cases h1
  · rw [hf] at h1; cases h1
  · omega
  · rw [Nat.add_sub_cancel, hx] at hz
    cases hz
    exact h3
/-- Keys rise. -/
theorem keysOK_rise {keys : List ByteArray} (h : keysOK keys = true) (d : Nat) : ∀ {i : Nat} {x y : ByteArray}, keys[i]? = some x → keys[i + d + 1]? = some y → sLt x y = true := by
  induction d with
  | zero => intro i x y hx hy; exact keysOK_lt h hx hy
  | succ d ih =>
    intro i x y hx hy
    have hj := (List.getElem?_eq_some_iff.1 hy).1
    obtain ⟨z, hz⟩ := get_some keys (i + 1) (by omega)
    exact sLt_trans (keysOK_lt h hx hz) (ih hz (by rw [show i + 1 + d + 1 = i + (d + 1) + 1 by omega]; exact hy))
theorem all_lt_last {keys : List ByteArray} (h : keysOK keys = true) {sep x : ByteArray} (hx : keys[keys.length - 1]? = some x) : keys.all (fun y => sLt y sep) = sLt x sep := by
  cases hs : sLt x sep
  · rw [List.all_eq_false]; exact ⟨x, List.mem_of_getElem? hx, by rw [hs]; simp⟩
  · rw [List.all_eq_true]
    intro y hy
    obtain ⟨j, hj⟩ := List.mem_iff_getElem?.1 hy
    have hjl := (List.getElem?_eq_some_iff.1 hj).1
    rcases (by omega : j = keys.length - 1 ∨ j < keys.length - 1) with e | e
    · rw [e, hx] at hj; cases hj; exact hs
    · exact sLt_trans (keysOK_rise h (keys.length - 1 - j - 1) hj (by rw [show j + (keys.length - 1 - j - 1) + 1 = keys.length - 1 by omega]; exact hx)) hs
theorem all_ge_first {keys : List ByteArray} (h : keysOK keys = true) {sep x : ByteArray} (hx : keys[0]? = some x) : keys.all (fun y => !sLt y sep) = !sLt x sep := by
  cases hs : sLt x sep
  · rw [Bool.not_false, List.all_eq_true]
    intro y hy
    obtain ⟨j, hj⟩ := List.mem_iff_getElem?.1 hy
    cases j with
    | zero => rw [hx] at hj; cases hj; rw [hs]; rfl
    | succ j =>
      have h1 := keysOK_rise h j hx (by rw [Nat.zero_add]; exact hj)
      cases h2 : sLt y sep
      · rfl
      · rw [sLt_trans h1 h2] at hs; cases hs
  · rw [Bool.not_true, List.all_eq_false]; exact ⟨x, List.mem_of_getElem? hx, by rw [hs]; simp⟩
end Go.Proofs.Ytedmamchfgkkfaa
