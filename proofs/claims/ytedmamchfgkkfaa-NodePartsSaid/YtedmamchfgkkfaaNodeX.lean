/- Layer 18 (node) walked: Join. -/
import Derived.Test.YtedmamchfgkkfaaNodeW
import Derived.Test.YtedmamchfgkkfaaNodeU
set_option linter.unusedVariables false
set_option linter.unusedSimpArgs false
namespace Go.Proofs.Ytedmamchfgkkfaa
open Go.RowKit
set_option maxRecDepth 100000
set_option maxHeartbeats 8000000

theorem Mem.put4 {w0 w : World} {cs : List Chunk} (h : Mem w0 cs w) (k : Nat) {g : Nat} {T : TypeId} {a0 a1 a2 a3 : Value} (hk : cs[k]? = some (blk g T #[a0, a1, a2, a3])) (b0 b1 b2 b3 : Value) :
    Mem w0 (cs.set k (blk g T #[b0, b1, b2, b3])) ((((w.setCell ⟨g, 0, none⟩ b0).setCell ⟨g, 1, none⟩ b1).setCell ⟨g, 2, none⟩ b2).setCell ⟨g, 3, none⟩ b3) :=
  h.upd k hk _ ((h.ob k hk).set4 b0 b1 b2 b3).1 ((h.ob k hk).set4 b0 b1 b2 b3).2
theorem mem_box3 (w : World) (o1 o2 o3 : Obj) : Mem w [blkO (w.heap.size + 1 + 1) o3, blkO (w.heap.size + 1) o2, blkO w.heap.size o1, old w] (((w.alloc o1).alloc o2).alloc o3) := by
  have h := (((Mem.start w).alloc o1).alloc o2).alloc o3
  simpa only [heap_alloc_size] using h
/-- A node is handed back whose slices can be read. -/
def RetRd (r : NodeR) (w : World) (e : Ending) (w' : World) : Prop :=
  ∃ A c B d I ci, e = .returned (.tuple #[nodeV r.k A r.keys.length c B r.vals.length d I r.kids.length ci, .int .i64 r.e]) ∧ Rd w' A (r.keys.map sv) ∧ Rd w' B (r.vals.map sv) ∧ Rd w' I (r.kids.map iv) ∧ Bl w w' ∧ r.keys.length ≤ c ∧ r.vals.length ≤ d ∧ r.kids.length ≤ ci
theorem RetRd.no {r : NodeR} {w w' : World} {e : Int} (h : r = nodeNo e) (hb : Bl w w') : RetRd r w (.returned (.tuple #[nodeV 0 none 0 0 none 0 0 none 0 0, .int .i64 e])) w' := by
  subst h; exact ⟨none, 0, none, 0, none, 0, rfl, Rd.nil _ _, Rd.nil _ _, Rd.nil _ _, hb, Nat.le_refl _, Nat.le_refl _, Nat.le_refl _⟩
theorem RetNode.rd {r : NodeR} {w w' : World} {e : Ending} (h : RetNode r w e w') : RetRd r w e w' := by
  obtain ⟨A, c, B, d, I, ci, h1, h2, h3, h4, h5⟩ := h
  refine ⟨A, c, B, d, I, ci, h1, h2.rd.1, h3.rd.1, h4.rd.1, h5, ?_, ?_, ?_⟩
  · obtain ⟨_, _, e, h⟩ := h2.slice; cases e; exact h
  · obtain ⟨_, _, e, h⟩ := h3.slice; cases e; exact h
  · obtain ⟨_, _, e, h⟩ := h4.slice; cases e; exact h
/-- The memory in Join: a result's variable, two boxes. -/
def jL (k : Int) (A B I : Option Addr) (keys vals : List ByteArray) (kids : List Int) (c d ci : Nat) (A2 B2 I2 : Option Addr) (keys2 vals2 : List ByteArray) (kids2 : List Int) (c2 d2 ci2 : Nat) (gR g2 g1 : Nat) (w : World) : List Chunk :=
  [blk gR 52 #[.int .u8 0, .slice none 0 0, .slice none 0 0, .slice none 0 0], blk g2 52 #[.int .u8 k, .slice A2 keys2.length c2, .slice B2 vals2.length d2, .slice I2 kids2.length ci2], blk g1 52 #[.int .u8 k, .slice A keys.length c, .slice B vals.length d, .slice I kids.length ci], old w]

theorem node_Join (k : Int) (A B I : Option Addr) (keys vals : List ByteArray) (kids : List Int) (c d ci : Nat) (sep : ByteArray) (k2 : Int) (A2 B2 I2 : Option Addr) (keys2 vals2 : List ByteArray) (kids2 : List Int) (c2 d2 ci2 : Nat) (w : World)
    (hk : keys.length * 16 ≤ 140737488355328) (hv : vals.length * 16 ≤ 140737488355328) (hn : kids.length * 8 ≤ 140737488355328) (hk2 : keys2.length * 16 ≤ 140737488355328) (hv2 : vals2.length * 16 ≤ 140737488355328) (hn2 : kids2.length * 8 ≤ 140737488355328)
    (rk : Rd w A (keys.map sv)) (rv : Rd w B (vals.map sv)) (rn : Rd w I (kids.map iv)) (rk2 : Rd w A2 (keys2.map sv)) (rv2 : Rd w B2 (vals2.map sv)) (rn2 : Rd w I2 (kids2.map iv)) :
    Calls Try.prog 49 #[nodeV k A keys.length c B vals.length d I kids.length ci, .string sep, nodeV k2 A2 keys2.length c2 B2 vals2.length d2 I2 kids2.length ci2] w (RetRd (nodeJoin ⟨k, keys, vals, kids⟩ sep ⟨k2, keys2, vals2, kids2⟩) w) := by
  have RK := Lib.hid rk
  have RV := Lib.hid rv
  have RN := Lib.hid rn
  have RK2 := Lib.hid rk2
  have RV2 := Lib.hid rv2
  have RN2 := Lib.hid rn2
  have m0 := mem_box3 w (.cells #[.int .u8 k, .slice A keys.length c, .slice B vals.length d, .slice I kids.length ci] 52) (.cells #[.int .u8 k2, .slice A2 keys2.length c2, .slice B2 vals2.length d2, .slice I2 kids2.length ci2] 52) (.cells #[.int .u8 0, .slice none 0 0, .slice none 0 0, .slice none 0 0] 52)
  have M0 := Lib.hid m0
  clear rk rv rn rk2 rv2 rn2 m0
  go_enter Try.func49, Try.ntmps49
  go_wp2_with (go_at_call 34; fail_if_success skip)
  generalize (((w.alloc (.cells #[.int .u8 k, .slice A keys.length c, .slice B vals.length d, .slice I kids.length ci] 52)).alloc (.cells #[.int .u8 k2, .slice A2 keys2.length c2, .slice B2 vals2.length d2, .slice I2 kids2.length ci2] 52)).alloc (.cells #[.int .u8 0, .slice none 0 0, .slice none 0 0, .slice none 0 0] 52)) = u at M0 ⊢
  generalize hgR : w.heap.size + 1 + 1 = gR at M0 ⊢
  generalize hg2 : w.heap.size + 1 = g2 at M0 ⊢
  generalize hg1 : w.heap.size = g1 at M0 ⊢
  clear hgR hg2 hg1
  have blo := (M0.out.toBlAt 3 rfl rfl rfl rfl)
  refine (node_Wide k A B I keys vals kids c d ci u (by omega) (by omega) (by omega) (RK.out.bl blo) (RV.out.bl blo) (RN.out.bl blo)).mono ?_
  rintro e w1 ⟨rfl, hbl1⟩
  have M1 := Lib.hid (M0.out.bl hbl1)
  clear hbl1 M0 blo
  obtain ⟨a0, a1, a2, a3, _⟩ := Ob.all4 (M1.out.ob 2 rfl)
  obtain ⟨b0, b1, b2, b3, _⟩ := Ob.all4 (M1.out.ob 1 rfl)
  obtain ⟨z0, z1, z2, z3, f0, f1, f2, f3⟩ := Ob.all4 (M1.out.ob 0 rfl)
  cases hr : nodeRight k keys vals kids 12 13
  · have HP := Lib.hid (show nodeJoin ⟨k, keys, vals, kids⟩ sep ⟨k2, keys2, vals2, kids2⟩ = nodeNo 2 by unfold nodeJoin; rw [if_pos (.inl hr)])
    clear hr
    go_wp2_with fail
    have m9 := M1.out.put4 0 rfl (.int .u8 0) (.slice none 0 0) (.slice none 0 0) (.slice none 0 0)
    refine bodyPost_ret (v := .tuple #[nodeV 0 none 0 0 none 0 0 none 0 0, .int .i64 2]) (results_ct rfl _ _ (m9.ob 0 rfl) rfl rfl Try.underlying52 rfl Try.sizeNode) rfl ?_
    exact RetRd.no HP.out (m9.toBlAt 3 rfl rfl rfl rfl)
  · go_wp2_with (go_at_call 34; fail_if_success skip)
    have blo := (M1.out.toBlAt 3 rfl rfl rfl rfl)
    refine (node_Wide k2 A2 B2 I2 keys2 vals2 kids2 c2 d2 ci2 w1 (by omega) (by omega) (by omega) (RK2.out.bl blo) (RV2.out.bl blo) (RN2.out.bl blo)).mono ?_
    rintro e w2 ⟨rfl, hbl2⟩
    have M2 := Lib.hid (M1.out.bl hbl2)
    clear hbl2 M1 blo
    clear a0 a1 a2 a3 b0 b1 b2 b3 z0 z1 z2 z3 f0 f1 f2 f3
    obtain ⟨a0, a1, a2, a3, _⟩ := Ob.all4 (M2.out.ob 2 rfl)
    obtain ⟨b0, b1, b2, b3, _⟩ := Ob.all4 (M2.out.ob 1 rfl)
    obtain ⟨z0, z1, z2, z3, f0, f1, f2, f3⟩ := Ob.all4 (M2.out.ob 0 rfl)
    by_cases hbad : nodeRight k2 keys2 vals2 kids2 12 13 = false ∨ k ≠ k2 ∨ sep.size < 1 ∨ 40 < sep.size
    · have HP := Lib.hid (show nodeJoin ⟨k, keys, vals, kids⟩ sep ⟨k2, keys2, vals2, kids2⟩ = nodeNo 2 by unfold nodeJoin; rw [if_pos (.inr hbad)])
      rcases (show (nodeRight k2 keys2 vals2 kids2 12 13 = false) ∨ (nodeRight k2 keys2 vals2 kids2 12 13 = true ∧ (k != k2) = true) ∨ (nodeRight k2 keys2 vals2 kids2 12 13 = true ∧ (k != k2) = false ∧ sep.size < 1) ∨ (nodeRight k2 keys2 vals2 kids2 12 13 = true ∧ (k != k2) = false ∧ 1 ≤ sep.size ∧ 40 < sep.size) by
        cases h1 : nodeRight k2 keys2 vals2 kids2 12 13
        · exact .inl rfl
        · right
          by_cases h2 : k = k2
          · right
            have e2 : (k != k2) = false := by simpa using h2
            by_cases h3 : sep.size < 1
            · exact .inl ⟨rfl, e2, h3⟩
            · right
              refine ⟨rfl, e2, by omega, ?_⟩
              rcases hbad with h | h | h | h
              · rw [h1] at h; cases h
              · exact absurd h2 h
              · omega
              · exact h
          · exact .inl ⟨rfl, by simpa using h2⟩) with h1 | ⟨h1, h2⟩ | ⟨h1, h2, h3⟩ | ⟨h1, h2, h3, h4⟩
      all_goals
        clear hbad hr
        rw [h1]
        go_wp2_with fail
        have m9 := M2.out.put4 0 rfl (.int .u8 0) (.slice none 0 0) (.slice none 0 0) (.slice none 0 0)
        refine bodyPost_ret (v := .tuple #[nodeV 0 none 0 0 none 0 0 none 0 0, .int .i64 2]) (results_ct rfl _ _ (m9.ob 0 rfl) rfl rfl Try.underlying52 rfl Try.sizeNode) rfl ?_
        exact RetRd.no HP.out (m9.toBlAt 3 rfl rfl rfl rfl)
    · have h1 : nodeRight k2 keys2 vals2 kids2 12 13 = true := by
        cases h1 : nodeRight k2 keys2 vals2 kids2 12 13
        · exact absurd (.inl h1) hbad
        · rfl
      have hkk : k = k2 := by
        by_cases h2 : k = k2
        · exact h2
        · exact absurd (.inr (.inl h2)) hbad
      have s1 : 1 ≤ sep.size := by omega
      have s2 : sep.size ≤ 40 := by omega
      subst hkk
      rw [h1]
      have HJ1 := Lib.hid (show nodeJoin ⟨k, keys, vals, kids⟩ sep ⟨k, keys2, vals2, kids2⟩ = (if k = 2 then joinEnd 2 (keys ++ [sep] ++ keys2) [] (kids ++ kids2) else if joinOK keys sep keys2 = false then nodeNo 2 else joinEnd k (keys ++ keys2) (vals ++ vals2) []) by
        unfold nodeJoin
        rw [if_neg (show ¬ _ from fun h => by
          rcases h with h | h | h | h | h
          · have h : nodeRight k keys vals kids 12 13 = false := h
            rw [hr] at h; cases h
          · have h : nodeRight k keys2 vals2 kids2 12 13 = false := h
            rw [h1] at h; cases h
          · exact h rfl
          · omega
          · omega)])
      have HR1 := Lib.hid (nodeRight_or hr)
      have HR2 := Lib.hid (nodeRight_or h1)
      have e0 : (k != k) = false := by simp
      clear hr h1 hbad
      go_upto_region 4 with (fail)
      have HL : Hid (jL k A B I keys vals kids c d ci A2 B2 I2 keys2 vals2 kids2 c2 d2 ci2 gR g2 g1 w = [blk gR 52 #[.int .u8 0, .slice none 0 0, .slice none 0 0, .slice none 0 0], blk g2 52 #[.int .u8 k, .slice A2 keys2.length c2, .slice B2 vals2.length d2, .slice I2 kids2.length ci2], blk g1 52 #[.int .u8 k, .slice A keys.length c, .slice B vals.length d, .slice I kids.length ci], old w]) := rfl
      rw [← HL.out] at M2
      generalize hL : jL k A B I keys vals kids c d ci A2 B2 I2 keys2 vals2 kids2 c2 d2 ci2 gR g2 g1 w = L at M2 HL
      have HA : Hid (∀ w', Mem w L w' → Bl w w' ∧ Ob w' g1 52 #[.int .u8 k, .slice A keys.length c, .slice B vals.length d, .slice I kids.length ci] ∧ Ob w' g2 52 #[.int .u8 k, .slice A2 keys2.length c2, .slice B2 vals2.length d2, .slice I2 kids2.length ci2] ∧ Ob w' gR 52 #[.int .u8 0, .slice none 0 0, .slice none 0 0, .slice none 0 0]) := fun w' h => by
        rw [HL.out] at h
        exact ⟨h.toBlAt 3 rfl rfl rfl rfl, h.ob 2 rfl, h.ob 1 rfl, h.ob 0 rfl⟩
      clear hL
      go_cut [8] (fun s wx => Hid (∃ g K, s = .pointer (some ⟨g, 0, none⟩) ∧ Mem w (blk g 52 #[.int .u8 k, K, .slice none 0 0, .slice none 0 0] :: row 9 1 K keys.length (keys.map sv) :: L) wx))
      case first =>
        have HK : Hid (∀ w' : World, Mem w L w' → w'.cell? ⟨g1, 0, none⟩ = some (.int .u8 k) ∧ w'.cell? ⟨g1, 1, none⟩ = some (.slice A keys.length c) ∧ Mem w L w') := fun w' h => by
          obtain ⟨_, h1, _⟩ := HA.out w' h
          exact ⟨h1.cell 0 rfl, h1.cell 1 rfl, h⟩
        have HM2 := M2.out
        go_region_held3 (fun w' => w'.cell? ⟨g1, 0, none⟩ = some (.int .u8 k) ∧ w'.cell? ⟨g1, 1, none⟩ = some (.slice A keys.length c) ∧ Mem w L w')
          (first | (refine HK.out _ ?_; (focus ((repeat (first | with_reducible assumption | with_reducible refine Mem.drew ?_ | with_reducible refine Mem.drewN ?_ _ | with_reducible refine Mem.drop (Mem.alloc ?_ _) | (with_reducible refine Mem.bl ?_ (by with_reducible assumption)))); done))) | exact HK.out _ (((HM2.alloc _).drew.bl hbl3).put4 0 rfl _ _ _ _).drop)
          (first
            | (go_at_call 90; (with_reducible refine (clone_S A c keys _ (by have := HR1.out.2; omega) (RK.out.bl (HA.out _ (by (focus ((repeat (first | with_reducible assumption | with_reducible refine Mem.drew ?_ | with_reducible refine Mem.drewN ?_ _ | with_reducible refine Mem.drop (Mem.alloc ?_ _) | (with_reducible refine Mem.bl ?_ (by with_reducible assumption)))); done)))).1)).mono ?_); rintro e w3 ⟨K3, rfl, hown3, hbl3⟩; obtain ⟨A3, c3, rfl, hcc3⟩ := hown3.slice; try (have h9 : Ob _ w2.heap.size _ _ := (Ob.new w2.drew _ _).bl hbl3; obtain ⟨n0, n1, n2, n3, nf0, nf1, nf2, nf3⟩ := Ob.all4 h9)))
        · go_wp2_with fail
          go_meet
          case rel => exact ⟨_, _, rfl, ((HM2.drew.newRow hbl3 hown3).alloc _)⟩
        · go_wp2_with fail
          go_meet
          case rel => exact ⟨_, _, rfl, ((((HM2.alloc _).drew.newRow hbl3 hown3).put4 1 rfl _ _ _ _).bring 1)⟩
      case rest =>
        obtain ⟨gN, K, rfl, M3⟩ := hcut.out
        obtain ⟨AK, cK, rfl, _⟩ := (M3.app 1 rfl).slice
        have M3h := Lib.hid M3
        clear M3 a0 a1 a2 a3 b0 b1 b2 b3 z0 z1 z2 z3 f0 f1 f2 f3
        obtain ⟨_, oa, ob, oz⟩ := HA.out _ (M3h.out.drop.drop)
        obtain ⟨a0, a1, a2, a3, _⟩ := Ob.all4 oa
        obtain ⟨b0, b1, b2, b3, _⟩ := Ob.all4 ob
        obtain ⟨n0, n1, n2, n3, nf0, nf1, nf2, nf3⟩ := Ob.all4 (M3h.out.ob 0 rfl)
        clear oa ob oz
        go_upto_if 43 with (fail)
        go_cut [] (fun wx => Hid (∃ ks vs is K V I, nodeJoin ⟨k, keys, vals, kids⟩ sep ⟨k, keys2, vals2, kids2⟩ = joinEnd k ks vs is ∧ ks.length ≤ 30 ∧ vs.length ≤ 30 ∧ is.length ≤ 30 ∧ Mem w (blk gN 52 #[.int .u8 k, K, V, I] :: row 9 1 K ks.length (ks.map sv) :: row 9 1 V vs.length (vs.map sv) :: row 3 1 I is.length (is.map iv) :: L) wx))
        case first =>
          by_cases h2 : k = 2
          · subst h2
            have HRK := Lib.hid (show keys.length ≤ 13 ∧ kids.length = keys.length + 1 ∧ keys2.length ≤ 13 ∧ kids2.length = keys2.length + 1 by have := HR1.out.2; have := HR2.out.2; omega)
            go_upto_region 6 with (fail)
            go_cut [] (fun wx => Hid (∃ K, Mem w (blk gN 52 #[.int .u8 2, K, .slice none 0 0, .slice none 0 0] :: row 9 1 K (keys.length + 1 + keys2.length) (keys.map sv ++ [sv sep] ++ keys2.map sv) :: L) wx))
            case first =>
              have ma := M3h.out.alloc (.cells #[.string sep] 9)
              have MA := Lib.hid ma.drew
              obtain ⟨_, oa, ob, oz⟩ := HA.out _ (ma.drop.drop.drop)
              have b1' := ob.cell 1 rfl
              have n1' := (ma.ob 1 rfl).cell 1 rfl
              simp only [List.getElem_toArray, List.getElem_cons_zero, List.getElem_cons_succ] at b1' n1'
              clear oa ob oz ma
              go_region_law (first
                | (refine step_row rfl _ _ 49 9 (.string .empty) 1 16 (by rfl) Try.underlying49 Try.infoStr rfl (by decide) 0 (MA.out.app 2 rfl) (by rfl) (by rfl) ((put_one_rd wc 9 (.string sep)).bl (Bl.refl _).drew) (by simp) (by intro u hu; simp at hu; subst hu; rfl) (by have := HR1.out.2; omega) (by have := HR1.out.2; omega) (Nat.zero_le _) ?_; intro v4 w4 hown4 hgr4 hat4; obtain ⟨A4, c4, rfl, hcc4⟩ := hown4.slice; have M4 := Lib.hid (MA.out.grow 2 rfl hown4 hgr4 hat4).drop; have b4 := (HA.out _ M4.out.drop.drop).2.2.1.cell 1 rfl; simp only [List.getElem_toArray, List.getElem_cons_zero, List.getElem_cons_succ] at b4)
                | (refine step_row rfl _ _ 49 9 (.string .empty) 1 16 (by rfl) Try.underlying49 Try.infoStr rfl (by decide) 0 (M4.out.app 1 rfl) (by rfl) (by rfl) (RK2.out.bl (HA.out _ M4.out.drop.drop).1) (by simp) (sv_one _) (by have := HR1.out.2; have := HR2.out.2; omega) (by have := HR1.out.2; have := HR2.out.2; omega) (Nat.zero_le _) ?_; intro v5 w5 hown5 hgr5 hat5; obtain ⟨A5, c5, rfl, hcc5⟩ := hown5.slice; have M5 := Lib.hid (M4.out.grow 1 rfl hown5 hgr5 hat5); have n5 := (M5.out.ob 0 rfl).cell 1 rfl; simp only [List.getElem_toArray, List.getElem_cons_zero, List.getElem_cons_succ] at n5; have nf5 := (M5.out.ob 0 rfl).free 1))
              all_goals
                go_wp2_with fail
                go_meet
                case rel => exact ⟨_, M5.out.put 0 rfl 1 _⟩
            case rest =>
              obtain ⟨K, M6⟩ := hcut.out
              have M6h := Lib.hid M6
              clear M6 a0 a1 a2 a3 b0 b1 b2 b3 n0 n1 n2 n3 nf0 nf1 nf2 nf3
              obtain ⟨_, oa, ob, oz⟩ := HA.out _ (M6h.out.drop.drop)
              obtain ⟨a0, a1, a2, a3, _⟩ := Ob.all4 oa
              obtain ⟨b0, b1, b2, b3, _⟩ := Ob.all4 ob
              clear oa ob oz
              have blo : Bl w (wc.alloc (.cells #[.slice I kids.length ci, .slice I2 kids2.length ci2] 50)) := (HA.out _ (M6h.out.drop.drop)).1.alloc _
              have hc := concat_I (some ⟨wc.heap.size, 0, none⟩) 2 [(I, kids, ci), (I2, kids2, ci2)] (wc.alloc (.cells #[.slice I kids.length ci, .slice I2 kids2.length ci2] 50)) (by simp) (by have := HRK.out; simp [sumI]; omega) (row_lit rowvI wc [(I, kids, ci), (I2, kids2, ci2)] _ _ rfl) (by intro r hr; simp at hr; rcases hr with rfl | rfl; exact RN.out.bl blo; exact RN2.out.bl blo)
              rw [show sumI [(I, kids, ci), (I2, kids2, ci2)] = kids ++ kids2 by simp [sumI]] at hc
              have HC := Lib.hid hc
              clear blo hc
              go_wp2_with fail
              refine HC.out.mono ?_
              rintro e w7 ⟨v7, rfl, hown7, hbl7⟩
              have M7 := Lib.hid ((M6h.out.alloc _).drop.newRow hbl7 hown7)
              obtain ⟨A7, c7, rfl, hcc7⟩ := hown7.slice
              obtain ⟨n0, n1, n2, n3, nf0, nf1, nf2, nf3⟩ := Ob.all4 (M7.out.ob 1 rfl)
              clear hown7 hbl7
              go_wp2_with fail
              go_meet
              case rel =>
                refine ⟨keys ++ [sep] ++ keys2, [], kids ++ kids2, K, .slice none 0 0, .slice A7 (kids.length + kids2.length) c7, by rw [HJ1.out]; simp, by have := HRK.out; simp; omega, by simp, by have := HRK.out; simp; omega, ?_⟩
                have m8 := (((M7.out.put 1 rfl 3 (.slice A7 (kids.length + kids2.length) c7)).nilRow 9 1).bring 3).bring 3
                have e1 : (keys ++ [sep] ++ keys2).length = keys.length + 1 + keys2.length := by simp; omega
                have e2 : (keys ++ [sep] ++ keys2).map sv = keys.map sv ++ [sv sep] ++ keys2.map sv := by simp
                have e3 : (kids ++ kids2).length = kids.length + kids2.length := by simp
                rw [e1, e2, e3]
                rw [e3] at m8
                exact m8
          · have hk1 : k = 1 := by have := HR1.out.2; omega
            subst hk1
            have HRK := Lib.hid (show keys.length ≤ 12 ∧ vals.length = keys.length ∧ keys2.length ≤ 12 ∧ vals2.length = keys2.length ∧ kids = [] ∧ kids2 = [] by
              have q1 := HR1.out.2
              have q2 := HR2.out.2
              rcases q1 with q1 | q1
              · rcases q2 with q2 | q2
                · exact ⟨q1.2.1, q1.2.2.1, q2.2.1, q2.2.2.1, q1.2.2.2.1, q2.2.2.2.1⟩
                · omega
              · omega)
            have HC1 : Hid (keys.all (fun x => sLt x sep) = true ∧ keys = [] ∨ ∃ m y b o, keys.length = m + 1 ∧ A = some ⟨b, o, none⟩ ∧ Rd w A (keys.map sv) ∧ keys[m]? = some y ∧ keys.all (fun x => sLt x sep) = sLt y sep) := by
              cases hke : keys.length with
              | zero => exact .inl ⟨by rw [List.eq_nil_of_length_eq_zero hke]; rfl, List.eq_nil_of_length_eq_zero hke⟩
              | succ m =>
                obtain ⟨y, hy⟩ := get_some keys m (by omega)
                obtain ⟨b, o, hA', _⟩ := RK.out.get hy
                exact .inr ⟨m, y, b, o, rfl, hA', RK.out, hy, all_lt_last HR1.out.1 (by rw [hke]; exact hy)⟩
            have HC2 : Hid (keys2.all (fun x => !sLt x sep) = true ∧ keys2 = [] ∨ ∃ y b o, 0 < keys2.length ∧ A2 = some ⟨b, o, none⟩ ∧ Rd w A2 (keys2.map sv) ∧ keys2[0]? = some y ∧ keys2.all (fun x => !sLt x sep) = !sLt y sep) := by
              rcases Nat.eq_zero_or_pos keys2.length with hke | hke
              · exact .inl ⟨by rw [List.eq_nil_of_length_eq_zero hke]; rfl, List.eq_nil_of_length_eq_zero hke⟩
              · obtain ⟨y, hy⟩ := get_some keys2 0 hke
                obtain ⟨b, o, hA', _⟩ := RK2.out.get hy
                exact .inr ⟨y, b, o, hke, hA', RK2.out, hy, all_ge_first HR2.out.1 hy⟩
            have blo := Lib.hid (HA.out _ (M3h.out.drop.drop)).1
            go_upto_region 7 with (fail)
            go_cut [89] (fun v wx => ∃ bb : Bool, v = .bool bb ∧ Hid (bb = !joinOK keys sep keys2) ∧ wx = wc)
            case first =>
              rcases HC1.out with ⟨he, hnil⟩ | ⟨m, y, b, o, hlen, rfl, hrd, hy, he⟩
              · have HE := Lib.hid he
                clear he
                subst hnil
                rcases HC2.out with ⟨he2, hnil2⟩ | ⟨z, bz, oz, hlen2, rfl, hrd2, hz, he2⟩
                · subst hnil2
                  have HB := Lib.hid (show false = !joinOK [] sep [] by unfold joinOK; rw [HE.out, he2]; rfl)
                  clear he2
                  go_wp2_with fail
                  go_meet
                  case rel => exact ⟨_, rfl, HB.out, rfl⟩
                · obtain ⟨b', o', hbo, hcz⟩ := (hrd2.bl blo.out).get hz
                  cases hbo
                  simp only [sv, Nat.add_zero] at hcz
                  cases hs2 : sLt z sep
                  · have HB := Lib.hid (show false = !joinOK [] sep keys2 by unfold joinOK; rw [HE.out, he2, hs2]; rfl)
                    have hcmp2 : Op.bytesLess z.toList sep.toList = false := hs2
                    clear he2 hs2 hz hrd2
                    go_wp2_with fail
                    go_meet
                    case rel => exact ⟨_, rfl, HB.out, rfl⟩
                  · have HB := Lib.hid (show true = !joinOK [] sep keys2 by unfold joinOK; rw [HE.out, he2, hs2]; rfl)
                    have hcmp2 : Op.bytesLess z.toList sep.toList = true := hs2
                    clear he2 hs2 hz hrd2
                    go_wp2_with fail
                    go_meet
                    case rel => exact ⟨_, rfl, HB.out, rfl⟩
              · have em : (keys.length : Int) - 1 = (m : Int) := by omega
                have hmk : m < keys.length := by omega
                have hk0 : 0 < keys.length := by omega
                obtain ⟨b', o', hbo, hcy⟩ := (hrd.bl blo.out).get hy
                cases hbo
                simp only [sv] at hcy
                cases hs : sLt y sep
                · have HB := Lib.hid (show true = !joinOK keys sep keys2 by unfold joinOK; rw [he, hs]; rfl)
                  have hcmp : Op.bytesLess y.toList sep.toList = false := hs
                  clear he hs hy hlen hrd
                  go_wp2_with fail
                  go_meet
                  case rel => exact ⟨_, rfl, HB.out, rfl⟩
                · have HE := Lib.hid (he.trans hs)
                  have hcmp : Op.bytesLess y.toList sep.toList = true := hs
                  clear he hs hy hlen hrd
                  rcases HC2.out with ⟨he2, hnil2⟩ | ⟨z, bz, oz, hlen2, rfl, hrd2, hz, he2⟩
                  · subst hnil2
                    have HB := Lib.hid (show false = !joinOK keys sep [] by unfold joinOK; rw [HE.out, he2]; rfl)
                    clear he2
                    go_wp2_with fail
                    go_meet
                    case rel => exact ⟨_, rfl, HB.out, rfl⟩
                  · obtain ⟨b', o', hbo, hcz⟩ := (hrd2.bl blo.out).get hz
                    cases hbo
                    simp only [sv, Nat.add_zero] at hcz
                    cases hs2 : sLt z sep
                    · have HB := Lib.hid (show false = !joinOK keys sep keys2 by unfold joinOK; rw [HE.out, he2, hs2]; rfl)
                      have hcmp2 : Op.bytesLess z.toList sep.toList = false := hs2
                      clear he2 hs2 hz hrd2
                      go_wp2_with fail
                      go_meet
                      case rel => exact ⟨_, rfl, HB.out, rfl⟩
                    · have HB := Lib.hid (show true = !joinOK keys sep keys2 by unfold joinOK; rw [HE.out, he2, hs2]; rfl)
                      have hcmp2 : Op.bytesLess z.toList sep.toList = true := hs2
                      clear he2 hs2 hz hrd2
                      go_wp2_with fail
                      go_meet
                      case rel => exact ⟨_, rfl, HB.out, rfl⟩
            case rest =>
              obtain ⟨bb, rfl, HB, hwx⟩ := hcut
              subst hwx
              cases bb
              · have HB2 := Lib.hid (show joinOK keys sep keys2 = true by have := HB.out; simpa using this.symm)
                go_upto_region 9 with (fail)
                go_cut [] (fun wx => Hid (∃ K, Mem w (blk gN 52 #[.int .u8 1, K, .slice none 0 0, .slice none 0 0] :: row 9 1 K (keys.length + keys2.length) (keys.map sv ++ keys2.map sv) :: L) wx))
                case first =>
                  go_wp2_with (at_builtin; go_must (refine append_row rfl _ _ 49 9 (.string .empty) 1 16 rfl Try.underlying49 Try.infoStr rfl (by decide) 0 (M3h.out.app 1 rfl) (by rfl) (by rfl) (RK2.out.bl blo.out) (by simp) (sv_one _) (by have := HRK.out; omega) (by have := HRK.out; omega) (Nat.zero_le _) ?_); intro v4 w4 hown4 hgr4 hat4; obtain ⟨A4, c4, rfl, hcc4⟩ := hown4.slice; have M4 := Lib.hid (M3h.out.grow 1 rfl hown4 hgr4 hat4); obtain ⟨p0, p1, p2, p3, pf0, pf1, pf2, pf3⟩ := Ob.all4 (M4.out.ob 0 rfl))
                  go_meet
                  case rel => exact ⟨_, M4.out.put 0 rfl 1 _⟩
                case rest =>
                  obtain ⟨K, M6⟩ := hcut.out
                  have M6h := Lib.hid M6
                  clear M6 a0 a1 a2 a3 b0 b1 b2 b3 n0 n1 n2 n3 nf0 nf1 nf2 nf3
                  obtain ⟨_, oa, ob, oz⟩ := HA.out _ (M6h.out.drop.drop)
                  obtain ⟨a0, a1, a2, a3, _⟩ := Ob.all4 oa
                  obtain ⟨b0, b1, b2, b3, _⟩ := Ob.all4 ob
                  clear oa ob oz
                  have blo2 : Bl w (wc.alloc (.cells #[.slice B vals.length d, .slice B2 vals2.length d2] 49)) := (HA.out _ (M6h.out.drop.drop)).1.alloc _
                  have hc := concat_S (some ⟨wc.heap.size, 0, none⟩) 2 [(B, vals, d), (B2, vals2, d2)] (wc.alloc (.cells #[.slice B vals.length d, .slice B2 vals2.length d2] 49)) (by simp) (by have := HRK.out; simp [sumS]; omega) (row_lit rowvS wc [(B, vals, d), (B2, vals2, d2)] _ _ rfl) (by intro r hr; simp at hr; rcases hr with rfl | rfl; exact RV.out.bl blo2; exact RV2.out.bl blo2)
                  rw [show sumS [(B, vals, d), (B2, vals2, d2)] = vals ++ vals2 by simp [sumS]] at hc
                  have HC := Lib.hid hc
                  clear blo2 hc
                  go_wp2_with fail
                  refine HC.out.mono ?_
                  rintro e w7 ⟨v7, rfl, hown7, hbl7⟩
                  have M7 := Lib.hid ((M6h.out.alloc _).drop.newRow hbl7 hown7)
                  obtain ⟨A7, c7, rfl, hcc7⟩ := hown7.slice
                  obtain ⟨n0, n1, n2, n3, nf0, nf1, nf2, nf3⟩ := Ob.all4 (M7.out.ob 1 rfl)
                  clear hown7 hbl7
                  go_wp2_with fail
                  go_meet
                  case rel =>
                    refine ⟨keys ++ keys2, vals ++ vals2, [], K, .slice A7 (vals.length + vals2.length) c7, .slice none 0 0, by rw [HJ1.out, HB2.out]; simp, by have := HRK.out; simp; omega, by have := HRK.out; simp; omega, by simp, ?_⟩
                    have m8 := ((((M7.out.put 1 rfl 2 (.slice A7 (vals.length + vals2.length) c7)).nilRow 3 1).bring 1).bring 3).bring 3
                    have e1 : (keys ++ keys2).length = keys.length + keys2.length := by simp
                    have e2 : (keys ++ keys2).map sv = keys.map sv ++ keys2.map sv := by simp
                    have e3 : (vals ++ vals2).length = vals.length + vals2.length := by simp
                    rw [e1, e2, e3]
                    rw [e3] at m8
                    exact m8
              · have HP := Lib.hid (show nodeJoin ⟨1, keys, vals, kids⟩ sep ⟨1, keys2, vals2, kids2⟩ = nodeNo 2 by
                  have := HB.out
                  rw [HJ1.out, if_neg (by decide), if_pos (by simpa using this.symm)])
                obtain ⟨_, oa, ob, oz⟩ := HA.out _ (M3h.out.drop.drop)
                obtain ⟨z0, z1, z2, z3, f0, f1, f2, f3⟩ := Ob.all4 oz
                clear oa ob oz
                go_wp2_with fail
                have m8 := M3h.out.drop.drop
                rw [HL.out] at m8
                have m9 := m8.put4 0 rfl (.int .u8 0) (.slice none 0 0) (.slice none 0 0) (.slice none 0 0)
                refine bodyPost_ret (v := .tuple #[nodeV 0 none 0 0 none 0 0 none 0 0, .int .i64 2]) (results_ct rfl _ _ (m9.ob 0 rfl) rfl rfl Try.underlying52 rfl Try.sizeNode) rfl ?_
                exact RetRd.no HP.out (m9.toBlAt 3 rfl rfl rfl rfl)
        case rest =>
          obtain ⟨ks, vs, is, K, V, I3, HJE, hks, hvs, his, m5⟩ := hcut.out
          obtain ⟨AK, cK, rfl, hcK⟩ := (m5.app 1 rfl).slice
          obtain ⟨AV, cV, rfl, hcV⟩ := (m5.app 2 rfl).slice
          obtain ⟨AI, cI, rfl, hcI⟩ := (m5.app 3 rfl).slice
          have M5 := Lib.hid m5
          have HJ2 := Lib.hid HJE
          clear m5 HJE a0 a1 a2 a3 b0 b1 b2 b3 n0 n1 n2 n3 nf0 nf1 nf2 nf3
          obtain ⟨_, oa, ob, oz⟩ := HA.out _ (M5.out.drop.drop.drop.drop)
          obtain ⟨z0, z1, z2, z3, f0, f1, f2, f3⟩ := Ob.all4 oz
          obtain ⟨n0, n1, n2, n3, nf0, nf1, nf2, nf3⟩ := Ob.all4 (M5.out.ob 0 rfl)
          clear oa ob oz
          have hw9 := node_Wide k AK AV AI ks vs is cK cV cI wc (by omega) (by omega) (by omega) (M5.out.app 1 rfl).rd.1 (M5.out.app 2 rfl).rd.1 (M5.out.app 3 rfl).rd.1
          go_wp2_with fail
          refine hw9.mono ?_
          rintro e w9 ⟨rfl, hbl9⟩
          have M9 := Lib.hid (M5.out.bl hbl9)
          clear hw9 hbl9 z0 z1 z2 z3 f0 f1 f2 f3 n0 n1 n2 n3 nf0 nf1 nf2 nf3
          obtain ⟨_, oa, ob, oz⟩ := HA.out _ (M9.out.drop.drop.drop.drop)
          obtain ⟨z0, z1, z2, z3, f0, f1, f2, f3⟩ := Ob.all4 oz
          obtain ⟨n0, n1, n2, n3, nf0, nf1, nf2, nf3⟩ := Ob.all4 (M9.out.ob 0 rfl)
          clear oa ob oz
          have m8 := M9.out
          rw [HL.out] at m8
          have M8 := Lib.hid m8
          clear m8
          cases hrr : nodeRight k ks vs is 12 13
          · have HP := Lib.hid (show nodeJoin ⟨k, keys, vals, kids⟩ sep ⟨k, keys2, vals2, kids2⟩ = nodeNo 2 by rw [HJ2.out]; unfold joinEnd; rw [if_pos hrr])
            clear hrr
            go_wp2_with fail
            have m9 := M8.out.put4 4 rfl (.int .u8 0) (.slice none 0 0) (.slice none 0 0) (.slice none 0 0)
            refine bodyPost_ret (v := .tuple #[nodeV 0 none 0 0 none 0 0 none 0 0, .int .i64 2]) (results_ct rfl _ _ (m9.ob 4 rfl) rfl rfl Try.underlying52 rfl Try.sizeNode) rfl ?_
            exact RetRd.no HP.out (m9.toBlAt 7 rfl rfl rfl rfl)
          · have HP := Lib.hid (show nodeJoin ⟨k, keys, vals, kids⟩ sep ⟨k, keys2, vals2, kids2⟩ = ⟨k, ks, vs, is, 0⟩ by rw [HJ2.out]; unfold joinEnd; rw [if_neg (by rw [hrr]; decide)])
            clear hrr
            go_wp2_with fail
            have m9 := M8.out.put4 4 rfl (.int .u8 k) (.slice AK ks.length cK) (.slice AV vs.length cV) (.slice AI is.length cI)
            refine bodyPost_ret (v := .tuple #[nodeV k AK ks.length cK AV vs.length cV AI is.length cI, .int .i64 0]) (results_ct rfl _ _ (m9.ob 4 rfl) rfl rfl Try.underlying52 rfl Try.sizeNode) rfl ?_
            unfold RetRd
            rw [HP.out]
            exact ⟨AK, cK, AV, cV, AI, cI, rfl, (m9.app 1 rfl).rd.1, (m9.app 2 rfl).rd.1, (m9.app 3 rfl).rd.1, m9.toBlAt 7 rfl rfl rfl rfl, hcK, hcV, hcI⟩
end Go.Proofs.Ytedmamchfgkkfaa
