/- Layer 18 (node) and its reference walked: nodes of their own memory. -/
import Derived.Test.YtedmamchfgkkfaaNodeI
import Derived.Test.YtedmamchfgkkfaaLib8
import Derived.Test.YtedmamchfgkkfaaDeedC
set_option linter.unusedVariables false
set_option linter.unusedSimpArgs false
namespace Go.Proofs.Ytedmamchfgkkfaa
open Go.RowKit
set_option maxRecDepth 100000
set_option maxHeartbeats 8000000

/-- A list of the call's own is handed back. -/
def RetTexts (xs : List ByteArray) (w : World) (e : Ending) (w' : World) : Prop := ∃ A c, e = .returned (.slice A xs.length c) ∧ xs.length ≤ c ∧ App w' w.heap.size 9 1 (.slice A xs.length c) xs.length (xs.map sv) ∧ Bl w w'
def RetInts (xs : List Int) (w : World) (e : Ending) (w' : World) : Prop := ∃ A c, e = .returned (.slice A xs.length c) ∧ xs.length ≤ c ∧ App w' w.heap.size 3 1 (.slice A xs.length c) xs.length (xs.map iv) ∧ Bl w w'
theorem ref_texts (A : Option Addr) (c : Nat) (xs : List ByteArray) (w : World) (hl : xs.length * 16 ≤ 140737488355328) (hr : Rd w A (xs.map sv)) : Calls Try.prog 87 #[.slice A xs.length c] w (RetTexts xs w) := by
  have HR := Lib.hid hr
  clear hr
  go_enter Try.func87, Try.ntmps87
  go_wp2_with (at_builtin; go_must (refine append_row rfl _ _ 49 9 (.string .empty) 1 16 rfl Try.underlying49 Try.infoStr rfl (by decide) w.heap.size (App.nil w _ _ _) (by rfl) (by rfl) HR.out (by simp) (sv_one _) (by simp; omega) (by simp; omega) (Nat.le_refl _) ?_); intro v1 w1 hown1 hgr1 hat1)
  go_ret
  have hbl : Bl w w1 := Bl.grown (Bl.refl w) hgr1 (fun q hq => by simp [Value.ownBlock] at hq)
  rw [Nat.zero_add, List.nil_append] at hown1
  obtain ⟨A1, c1, rfl, hcc⟩ := hown1.slice
  exact ⟨A1, c1, rfl, hcc, hown1, hbl⟩
theorem ref_copyInts (A : Option Addr) (c : Nat) (xs : List Int) (w : World) (hl : xs.length * 8 ≤ 140737488355328) (hr : Rd w A (xs.map iv)) : Calls Try.prog 88 #[.slice A xs.length c] w (RetInts xs w) := by
  have HR := Lib.hid hr
  clear hr
  go_enter Try.func88, Try.ntmps88
  go_wp2_with (at_builtin; go_must (refine append_row rfl _ _ 50 3 (.int .i64 0) 1 8 rfl Try.underlying50 Try.infoInt rfl (by decide) w.heap.size (App.nil w _ _ _) (by rfl) (by rfl) HR.out (by simp) (iv_one _) (by simp; omega) (by simp; omega) (Nat.le_refl _) ?_); intro v1 w1 hown1 hgr1 hat1)
  go_ret
  have hbl : Bl w w1 := Bl.grown (Bl.refl w) hgr1 (fun q hq => by simp [Value.ownBlock] at hq)
  rw [Nat.zero_add, List.nil_append] at hown1
  obtain ⟨A1, c1, rfl, hcc⟩ := hown1.slice
  exact ⟨A1, c1, rfl, hcc, hown1, hbl⟩

/-- A node of the call's own is handed back. -/
def RetOf (k : Int) (keys vals : List ByteArray) (kids : List Int) (w : World) (e : Ending) (w' : World) : Prop :=
  ∃ A c B d I ci, e = .returned (nodeV k A keys.length c B vals.length d I kids.length ci) ∧ App w' w.heap.size 9 1 (.slice A keys.length c) keys.length (keys.map sv) ∧ App w' w.heap.size 9 1 (.slice B vals.length d) vals.length (vals.map sv) ∧ App w' w.heap.size 3 1 (.slice I kids.length ci) kids.length (kids.map iv) ∧ Bl w w' ∧ ((Value.slice A keys.length c).ownBlock = none ∨ (Value.slice A keys.length c).ownBlock ≠ (Value.slice B vals.length d).ownBlock)
/-- .. whose room is its length. -/
def RetFit (k : Int) (keys vals : List ByteArray) (kids : List Int) (w : World) (e : Ending) (w' : World) : Prop :=
  ∃ A B I, e = .returned (nodeV k A keys.length keys.length B vals.length vals.length I kids.length kids.length) ∧ App w' w.heap.size 9 1 (.slice A keys.length keys.length) keys.length (keys.map sv) ∧ App w' w.heap.size 9 1 (.slice B vals.length vals.length) vals.length (vals.map sv) ∧ App w' w.heap.size 3 1 (.slice I kids.length kids.length) kids.length (kids.map iv) ∧ Bl w w' ∧ ((Value.slice A keys.length keys.length).ownBlock = none ∨ (Value.slice A keys.length keys.length).ownBlock ≠ (Value.slice B vals.length vals.length).ownBlock)

theorem ref_nodeCopy (k : Int) (A B I : Option Addr) (keys vals : List ByteArray) (kids : List Int) (c d ci : Nat) (w : World) (hk : keys.length * 16 ≤ 140737488355328) (hv : vals.length * 16 ≤ 140737488355328) (hn : kids.length * 8 ≤ 140737488355328)
    (rk : Rd w A (keys.map sv)) (rv : Rd w B (vals.map sv)) (rn : Rd w I (kids.map iv)) :
    Calls Try.prog 46 #[nodeV k A keys.length c B vals.length d I kids.length ci] w (RetOf k keys vals kids w) := by
  have RK := Lib.hid rk
  have RV := Lib.hid rv
  have RN := Lib.hid rn
  have o1 := Ob.new w #[.int .u8 k, .slice A keys.length c, .slice B vals.length d, .slice I kids.length ci] 52
  have o2 := Ob.new (w.alloc (.cells #[.int .u8 k, .slice A keys.length c, .slice B vals.length d, .slice I kids.length ci] 52)) #[.int .u8 0, .slice none 0 0, .slice none 0 0, .slice none 0 0] 52
  have o1 := o1.bl ((Bl.refl _).alloc (.cells #[.int .u8 0, .slice none 0 0, .slice none 0 0, .slice none 0 0] 52))
  have HW := Lib.hid (((Bl.refl w).alloc (.cells #[.int .u8 k, .slice A keys.length c, .slice B vals.length d, .slice I kids.length ci] 52)).alloc (.cells #[.int .u8 0, .slice none 0 0, .slice none 0 0, .slice none 0 0] 52))
  rw [show (w.alloc (.cells #[.int .u8 k, .slice A keys.length c, .slice B vals.length d, .slice I kids.length ci] 52)).heap.size = w.heap.size + 1 by simp] at o2
  have HO := Lib.hid o1
  have HZ := Lib.hid o2
  clear rk rv rn o1 o2
  go_enter Try.func46, Try.ntmps46
  go_wp2_with fail
  generalize (w.alloc (.cells #[.int .u8 k, .slice A keys.length c, .slice B vals.length d, .slice I kids.length ci] 52)).alloc (.cells #[.int .u8 0, .slice none 0 0, .slice none 0 0, .slice none 0 0] 52) = u at HO HZ HW ⊢
  have HK : Hid (∀ w' : World, Ch [w.heap.size + 1] u w' → w'.cell? ⟨w.heap.size, 0, none⟩ = some (.int .u8 k) ∧ w'.cell? ⟨w.heap.size, 1, none⟩ = some (.slice A keys.length c) ∧ w'.cell? ⟨w.heap.size, 2, none⟩ = some (.slice B vals.length d) ∧ w'.cell? ⟨w.heap.size, 3, none⟩ = some (.slice I kids.length ci) ∧ Ch [w.heap.size + 1] u w') := fun w' h => by
    obtain ⟨a0, a1, a2, a3, _⟩ := Ob.all4 (HO.out.ch h (by simp))
    exact ⟨a0, a1, a2, a3, h⟩
  have RK1 := Lib.hid (RK.out.bl HW.out)
  have RV1 := Lib.hid (RV.out.bl HW.out)
  have RN1 := Lib.hid (RN.out.bl HW.out)
  go_region_held3 (fun w' => w'.cell? ⟨w.heap.size, 0, none⟩ = some (.int .u8 k) ∧ w'.cell? ⟨w.heap.size, 1, none⟩ = some (.slice A keys.length c) ∧ w'.cell? ⟨w.heap.size, 2, none⟩ = some (.slice B vals.length d) ∧ w'.cell? ⟨w.heap.size, 3, none⟩ = some (.slice I kids.length ci) ∧ Ch [w.heap.size + 1] u w')
    (exact HK.out _ (by (focus ((repeat (first | with_reducible assumption | with_reducible exact Ch.refl _ _ | with_reducible refine Ch.drew ?_ | with_reducible refine Ch.drewN ?_ _ | with_reducible refine Ch.alloc ?_ _ | with_reducible refine Ch.cellput ?_ (by simp) _ | (with_reducible refine Ch.same ?_ (by with_reducible assumption)) | (with_reducible refine Ch.step ?_ (by with_reducible assumption)))); done))))
    (first
      | (go_at_call 87; (with_reducible refine (ref_texts A c keys _ hk (Rd.bl RK1.out (by (focus ((repeat (first | with_reducible assumption | exact Bl.refl _ | refine Bl.drew ?_ | refine Bl.drewN ?_ _ | refine Bl.alloc ?_ _ | (refine Bl.trans ?_ (by with_reducible assumption)))); done))))).mono ?_); rintro e w3 ⟨A3, c3, rfl, hc3, hown3, hbl3⟩)
      | (go_at_call 87; (with_reducible refine (ref_texts B d vals _ hv (Rd.bl RV1.out (by (focus ((repeat (first | with_reducible assumption | exact Bl.refl _ | refine Bl.drew ?_ | refine Bl.drewN ?_ _ | refine Bl.alloc ?_ _ | (refine Bl.trans ?_ (by with_reducible assumption)))); done))))).mono ?_); rintro e w4 ⟨A4, c4, rfl, hc4, hown4, hbl4⟩)
      | (go_at_call 88; (with_reducible refine (ref_copyInts I ci kids _ hn (Rd.bl RN1.out (by (focus ((repeat (first | with_reducible assumption | exact Bl.refl _ | refine Bl.drew ?_ | refine Bl.drewN ?_ _ | refine Bl.alloc ?_ _ | (refine Bl.trans ?_ (by with_reducible assumption)))); done))))).mono ?_); rintro e w5 ⟨A5, c5, rfl, hc5, hown5, hbl5⟩; have hz5 : Bl u w5 := (by (focus ((repeat (first | with_reducible assumption | exact Bl.refl _ | refine Bl.drew ?_ | refine Bl.drewN ?_ _ | refine Bl.alloc ?_ _ | (refine Bl.trans ?_ (by with_reducible assumption)))); done))); obtain ⟨z0, z1, z2, z3, f0, f1, f2, f3⟩ := Ob.all4 (HZ.out.bl hz5)))
  go_wp2_with fail
  have hch := ((HZ.out.bl hz5).set4 (.int .u8 k) (.slice A3 keys.length c3) (.slice A4 vals.length c4) (.slice A5 kids.length c5)).2
  refine bodyPost_ret (v := nodeV k A3 keys.length c3 A4 vals.length c4 A5 kids.length c5) (results_c rfl _ _ ((HZ.out.bl hz5).set4 _ _ _ _).1 rfl Try.underlying52 rfl Try.sizeNode) rfl ?_
  have s3 : w.heap.size + 2 ≤ u.drew.heap.size := by have := HZ.out.lt; simp; omega
  have s4 : u.drew.heap.size ≤ w3.heap.size := hbl3.size
  have s5 : w3.heap.size ≤ w4.heap.size := hbl4.size
  have key : ∀ {T : TypeId} {v : Value} {m bb : Nat} {cs : List Value}, App w5 bb T 1 v m cs → w.heap.size + 2 ≤ bb → App _ w.heap.size T 1 v m cs := fun a hb => (a.ch hch (fun g hg e => by have := a.ge g e; simp at hg; omega)).mono (by omega)
  refine ⟨A3, c3, A4, c4, A5, c5, rfl, key (hown3.bl (hbl4.trans hbl5)) (by omega), key (hown4.bl hbl5) (by omega), key hown5 (by omega), ((HW.out.trans hz5).ch [w.heap.size + 1]).same hch |>.bl (by simp), ?_⟩
  rcases hq : (Value.slice A3 keys.length c3).ownBlock with _ | g
  · exact .inl rfl
  · right
    intro e
    have h1 := (hown3.lt g hq).2
    have h2 := (hown4.lt g e.symm).1
    omega

theorem copy_all {P : Program} {w : World} {base n : Nat} {e : TypeId} {v : Value} {ds cs : List Value} (h : App w base e 1 v n (cs.take n ++ ds.drop cs.length)) (hl : cs.length = n) (hd : ds.length = n) : App w base e 1 v n cs := by
  rw [List.take_of_length_le (by omega), List.drop_eq_nil_of_le (by omega), List.append_nil] at h
  exact h
theorem made_len (z : Value) (n : Nat) : (madeCells z.cells (n * z.cells.size)).toList.length = n * z.cells.size := by simp [size_madeCells]
theorem Try.sizeStr : (Try.prog.info? 9).map (·.size) = some 1 := by kernel_rfl
theorem node_own (k : Int) (A B I : Option Addr) (keys vals : List ByteArray) (kids : List Int) (c d ci : Nat) (w : World) (hk : keys.length * 16 ≤ 140737488355328) (hv : vals.length * 16 ≤ 140737488355328) (hn : kids.length * 8 ≤ 140737488355328)
    (rk : Rd w A (keys.map sv)) (rv : Rd w B (vals.map sv)) (rn : Rd w I (kids.map iv)) :
    Calls Try.prog 89 #[nodeV k A keys.length c B vals.length d I kids.length ci] w (RetFit k keys vals kids w) := by
  have RK := Lib.hid rk
  have RV := Lib.hid rv
  have RN := Lib.hid rn
  have o1 := Ob.new w #[.int .u8 k, .slice A keys.length c, .slice B vals.length d, .slice I kids.length ci] 52
  have o2 := Ob.new (w.alloc (.cells #[.int .u8 k, .slice A keys.length c, .slice B vals.length d, .slice I kids.length ci] 52)) #[.int .u8 0, .slice none 0 0, .slice none 0 0, .slice none 0 0] 52
  have o1 := o1.bl ((Bl.refl _).alloc (.cells #[.int .u8 0, .slice none 0 0, .slice none 0 0, .slice none 0 0] 52))
  have HW := Lib.hid (((Bl.refl w).alloc (.cells #[.int .u8 k, .slice A keys.length c, .slice B vals.length d, .slice I kids.length ci] 52)).alloc (.cells #[.int .u8 0, .slice none 0 0, .slice none 0 0, .slice none 0 0] 52))
  rw [show (w.alloc (.cells #[.int .u8 k, .slice A keys.length c, .slice B vals.length d, .slice I kids.length ci] 52)).heap.size = w.heap.size + 1 by simp] at o2
  have HO := Lib.hid o1
  have HZ := Lib.hid o2
  clear rk rv rn o1 o2
  go_enter Try.func89, Try.ntmps89
  go_wp2_with fail
  generalize (w.alloc (.cells #[.int .u8 k, .slice A keys.length c, .slice B vals.length d, .slice I kids.length ci] 52)).alloc (.cells #[.int .u8 0, .slice none 0 0, .slice none 0 0, .slice none 0 0] 52) = u at HO HZ HW ⊢
  have HK : Hid (∀ w' : World, Bl u w' → w'.cell? ⟨w.heap.size, 0, none⟩ = some (.int .u8 k) ∧ w'.cell? ⟨w.heap.size, 1, none⟩ = some (.slice A keys.length c) ∧ w'.cell? ⟨w.heap.size, 2, none⟩ = some (.slice B vals.length d) ∧ w'.cell? ⟨w.heap.size, 3, none⟩ = some (.slice I kids.length ci) ∧ Bl u w') := fun w' h => by
    obtain ⟨a0, a1, a2, a3, _⟩ := Ob.all4 (HO.out.bl h)
    exact ⟨a0, a1, a2, a3, h⟩
  go_cut [3, 9, 13, 17] (fun s sa sb sc wx => Hid (∃ (g : Nat) (A' B' I' : Option Addr) (xs ys zs : List Value), s = .pointer (some ⟨g, 0, none⟩) ∧ sa = .slice A' keys.length keys.length ∧ sb = .slice B' vals.length vals.length ∧ sc = .slice I' kids.length kids.length ∧ u.heap.size ≤ g ∧ Ob wx g 52 #[.int .u8 k, .slice A' keys.length keys.length, .slice B' vals.length vals.length, .slice I' kids.length kids.length] ∧
    App wx u.heap.size 9 1 (.slice A' keys.length keys.length) keys.length xs ∧ App wx u.heap.size 9 1 (.slice B' vals.length vals.length) vals.length ys ∧ App wx u.heap.size 3 1 (.slice I' kids.length kids.length) kids.length zs ∧ Bl u wx ∧
    ((Value.slice A' keys.length keys.length).ownBlock = none ∨ (Value.slice A' keys.length keys.length).ownBlock ≠ (Value.slice B' vals.length vals.length).ownBlock)))
  case first =>
    have m1 := make_rule (P := Try.prog) 49 9 (.string .empty) 1 16 Try.underlying49 Try.infoStr keys.length (by omega) (by omega)
    have m2 := make_rule (P := Try.prog) 49 9 (.string .empty) 1 16 Try.underlying49 Try.infoStr vals.length (by omega) (by omega)
    have m3 := make_rule (P := Try.prog) 50 3 (.int .i64 0) 1 8 Try.underlying50 Try.infoInt kids.length (by omega) (by omega)
    generalize hz1 : madeCells (Value.string .empty).cells (keys.length * 1) = x1 at m1
    generalize hz2 : madeCells (Value.string .empty).cells (vals.length * 1) = x2 at m2
    generalize hz3 : madeCells (Value.int .i64 0).cells (kids.length * 1) = x3 at m3
    have HS1 := Lib.hid (show x1.size = keys.length * 1 by rw [← hz1, size_madeCells])
    have HS2 := Lib.hid (show x2.size = vals.length * 1 by rw [← hz2, size_madeCells])
    have HS3 := Lib.hid (show x3.size = kids.length * 1 by rw [← hz3, size_madeCells])
    have HM1 := Lib.hid (show keys.length ≤ maxLen from Nat.le_trans (show keys.length ≤ 281474976710656 by omega) (by decide))
    have HM2 := Lib.hid (show vals.length ≤ maxLen from Nat.le_trans (show vals.length ≤ 281474976710656 by omega) (by decide))
    have HM3 := Lib.hid (show kids.length ≤ maxLen from Nat.le_trans (show kids.length ≤ 281474976710656 by omega) (by decide))
    clear hz1 hz2 hz3
    go_region_held3 (fun w' => w'.cell? ⟨w.heap.size, 0, none⟩ = some (.int .u8 k) ∧ w'.cell? ⟨w.heap.size, 1, none⟩ = some (.slice A keys.length c) ∧ w'.cell? ⟨w.heap.size, 2, none⟩ = some (.slice B vals.length d) ∧ w'.cell? ⟨w.heap.size, 3, none⟩ = some (.slice I kids.length ci) ∧ Bl u w')
      (exact HK.out _ (by (focus ((repeat (first | with_reducible assumption | exact Bl.refl _ | refine Bl.drew ?_ | refine Bl.drewN ?_ _ | refine Bl.alloc ?_ _ | (refine Bl.trans ?_ (by with_reducible assumption)))); done))))
      (first
        | fail)
    all_goals
      clear m1 m2 m3
      go_wp2_with fail
      go_meet
      case rel =>
        refine ⟨_, _, _, _, x1.toList, x2.toList, x3.toList, rfl, rfl, rfl, rfl, ?_, ?_, App.fresh ?_ ?_ HM1.out HS1.out, App.fresh ?_ ?_ HM2.out HS2.out, App.fresh ?_ ?_ HM3.out HS3.out, ?_, ?_⟩
        any_goals (first | omega | (simp only [Ob, heap_drew_at, heap_alloc_at, heap_alloc_size, if_true] <;> (repeat' split) <;> first | rfl | omega))
        all_goals first | (right; intro e; simp [Value.ownBlock] at e; done) | (right; intro e; simp [Value.ownBlock] at e; omega) | (focus ((repeat (first | with_reducible assumption | exact Bl.refl _ | refine Bl.drew ?_ | refine Bl.drewN ?_ _ | refine Bl.alloc ?_ _ | (refine Bl.trans ?_ (by with_reducible assumption)))); done))
  case rest =>
    obtain ⟨g, A', B', I', xs, ys, zs, rfl, rfl, rfl, rfl, hge, hob, ha, hb, hi, hbl, hap⟩ := hcut.out
    have lx : xs.length = keys.length := by simpa using ha.len
    have ly : ys.length = vals.length := by simpa using hb.len
    have lz : zs.length = kids.length := by simpa using hi.len
    have HA := Lib.hid ha
    have HB := Lib.hid hb
    have HI := Lib.hid hi
    have HG := Lib.hid hob
    have HBL := Lib.hid hbl
    have HAP := Lib.hid hap
    obtain ⟨a0, a1, a2, a3, _⟩ := HK.out _ hbl
    obtain ⟨b0, b1, b2, b3, _⟩ := Ob.all4 hob
    have nab := ne_swap hap
    have nai := app_ne hi ha (by decide)
    have nbi := app_ne hi hb (by decide)
    have NAB := Lib.hid nab
    have NAI := Lib.hid nai
    have NBI := Lib.hid nbi
    clear ha hb hi hob hbl hap nab nai nbi
    obtain ⟨z0, z1, z2, z3, _⟩ := Ob.all4 (HZ.out.bl HBL.out)
    go_wp2_with (first
      | (refine copy_step rfl _ _ 49 49 (by rfl) 9 Try.underlying49 Try.sizeStr HA.out (by rfl) (by rfl) (cs := keys.map sv) (by simp) (RK.out.bl (HW.out.trans HBL.out)) (sv_one _) ?_; intro w1 hown1 hgr1 hsz1; have hA1 := copy_all (P := Try.prog) (cs := keys.map sv) (by simpa using hown1) (by simp) lx; have hbl1 := HBL.out.grown hgr1 HA.out.ge; have hG1 := HG.out.ch (Ch.grown hgr1) (by intro hm; simp at hm; exact HG.out.app HA.out (by decide) hm); have hB1 := HB.out.kept hgr1 NAB.out; have hI1 := HI.out.kept hgr1 NAI.out; clear hown1 hgr1 a0 a1 a2 a3 b0 b1 b2 b3; obtain ⟨a0, a1, a2, a3, _⟩ := HK.out _ hbl1; obtain ⟨b0, b1, b2, b3, _⟩ := Ob.all4 hG1; have HA1 := Lib.hid hA1; have HB1 := Lib.hid hB1; have HI1 := Lib.hid hI1; have HG1 := Lib.hid hG1; have HBL1 := Lib.hid hbl1; clear hA1 hB1 hI1 hG1 hbl1)
      | (refine copy_step rfl _ _ 49 49 (by rfl) 9 Try.underlying49 Try.sizeStr HB1.out (by rfl) (by rfl) (cs := vals.map sv) (by simp) (RV.out.bl (HW.out.trans HBL1.out)) (sv_one _) ?_; intro w2 hown2 hgr2 hsz2; have hB2 := copy_all (P := Try.prog) (cs := vals.map sv) (by simpa using hown2) (by simp) ly; have hbl2 := HBL1.out.grown hgr2 HB1.out.ge; have hG2 := HG1.out.ch (Ch.grown hgr2) (by intro hm; simp at hm; exact HG1.out.app HB1.out (by decide) hm); have hA2 := HA1.out.kept hgr2 HAP.out; have hI2 := HI1.out.kept hgr2 NBI.out; clear hown2 hgr2 a0 a1 a2 a3 b0 b1 b2 b3; obtain ⟨a0, a1, a2, a3, _⟩ := HK.out _ hbl2; obtain ⟨b0, b1, b2, b3, _⟩ := Ob.all4 hG2; have HA2 := Lib.hid hA2; have HB2 := Lib.hid hB2; have HI2 := Lib.hid hI2; have HG2 := Lib.hid hG2; have HBL2 := Lib.hid hbl2; clear hA2 hB2 hI2 hG2 hbl2)
      | (refine copy_step rfl _ _ 50 50 (by rfl) 3 Try.underlying50 Try.sizeInt HI2.out (by rfl) (by rfl) (cs := kids.map iv) (by simp) (RN.out.bl (HW.out.trans HBL2.out)) (iv_one _) ?_; intro w3 hown3 hgr3 hsz3; have hI3 := copy_all (P := Try.prog) (cs := kids.map iv) (by simpa using hown3) (by simp) lz; have hbl3 := HBL2.out.grown hgr3 HI2.out.ge; have hG3 := HG2.out.ch (Ch.grown hgr3) (by intro hm; simp at hm; exact HG2.out.app HI2.out (by decide) hm); have hA3 := HA2.out.kept hgr3 (ne_swap NAI.out); have hB3 := HB2.out.kept hgr3 (ne_swap NBI.out); clear hown3 hgr3 a0 a1 a2 a3 b0 b1 b2 b3; obtain ⟨a0, a1, a2, a3, _⟩ := HK.out _ hbl3; obtain ⟨b0, b1, b2, b3, _⟩ := Ob.all4 hG3; have HA3 := Lib.hid hA3; have HB3 := Lib.hid hB3; have HI3 := Lib.hid hI3; have HG3 := Lib.hid hG3; obtain ⟨z0, z1, z2, z3, f0, f1, f2, f3⟩ := Ob.all4 (HZ.out.bl hbl3); have HBL3 := Lib.hid hbl3; clear hA3 hB3 hI3 hG3 hbl3))
    have hz := HZ.out.bl HBL3.out
    have hch := (hz.set4 (.int .u8 k) (.slice A' keys.length keys.length) (.slice B' vals.length vals.length) (.slice I' kids.length kids.length)).2
    refine bodyPost_ret (v := nodeV k A' keys.length keys.length B' vals.length vals.length I' kids.length kids.length) (results_c rfl _ _ (hz.set4 _ _ _ _).1 rfl Try.underlying52 rfl Try.sizeNode) rfl ?_
    have hsz := HW.out.size
    have hlt := HZ.out.lt
    have key : ∀ {T : TypeId} {v : Value} {m : Nat} {cs : List Value}, App w3 u.heap.size T 1 v m cs → App _ w.heap.size T 1 v m cs := fun a => (a.ch hch (fun g hg e => by have := a.ge g e; simp at hg; omega)).mono (by omega)
    exact ⟨A', B', I', rfl, key HA3.out, key HB3.out, key HI3.out, ((HW.out.trans HBL3.out).ch [w.heap.size + 1]).same hch |>.bl (by simp), HAP.out⟩
end Go.Proofs.Ytedmamchfgkkfaa
