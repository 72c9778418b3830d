/- The law NodeFinds of layer 18 walked. -/
import Derived.Test.YtedmamchfgkkfaaNodeM
set_option linter.unusedVariables false
set_option linter.unusedSimpArgs false
namespace Go.Proofs.Ytedmamchfgkkfaa
open Go.RowKit
set_option maxRecDepth 100000
set_option maxHeartbeats 4000000

theorem finds_calls (k : Int) (A B I : Option Addr) (keys vals : List ByteArray) (kids : List Int) (c d ci : Nat) (key : ByteArray) (w : World) (hk : keys.length ≤ 281474976710656) (rk : Rd w A (keys.map sv)) :
    Calls Try.prog 7 #[nodeV k A keys.length c B vals.length d I kids.length ci, .string key] w (RetBl true w) := by
  have RK := Lib.hid rk
  have HO := Lib.hid (Ob.new w #[.int .u8 k, .slice A keys.length c, .slice B vals.length d, .slice I kids.length ci] 52)
  have HW := Lib.hid ((Bl.refl w).alloc (.cells #[.int .u8 k, .slice A keys.length c, .slice B vals.length d, .slice I kids.length ci] 52))
  clear rk
  go_enter Try.func7, Try.ntmps7
  go_wp2_with fail
  generalize w.alloc (.cells #[.int .u8 k, .slice A keys.length c, .slice B vals.length d, .slice I kids.length ci] 52) = u at HO HW ⊢
  refine (node_Find k A B I keys c vals.length d kids.length ci key u hk (RK.out.bl HW.out)).mono ?_
  rintro e w1 ⟨rfl, hbl1⟩
  have HB1 := Lib.hid hbl1
  obtain ⟨o0, o1, o2, o3, _⟩ := Ob.all4 (HO.out.bl hbl1)
  clear hbl1
  go_wp2_with fail
  refine (ref_nodeFind k A B I keys c vals.length d kids.length ci key w1 hk (RK.out.bl (HW.out.trans HB1.out))).mono ?_
  rintro e w2 ⟨rfl, hbl2⟩
  have HB2 := Lib.hid (HB1.out.trans hbl2)
  clear hbl2 o0 o1 o2 o3
  have HK : Hid (∀ w' : World, Bl w2 w' → w'.cell? ⟨w.heap.size, 0, none⟩ = some (.int .u8 k) ∧ w'.cell? ⟨w.heap.size, 1, none⟩ = some (.slice A keys.length c) ∧ w'.cell? ⟨w.heap.size, 2, none⟩ = some (.slice B vals.length d) ∧ w'.cell? ⟨w.heap.size, 3, none⟩ = some (.slice I kids.length ci) ∧ Bl w2 w') := fun w' h => by
    obtain ⟨a0, a1, a2, a3, _⟩ := Ob.all4 (HO.out.bl (HB2.out.trans h))
    exact ⟨a0, a1, a2, a3, h⟩
  generalize findN keys key = fn
  generalize findIs keys key = fi
  generalize hkn : kidN keys key = kn
  have HKN := Lib.hid hkn
  clear hkn
  have e1 : ((fn : Int) == (fn : Int)) = true := by simp
  have e2 : (fi == fi) = true := by simp
  have e3 : ((kn : Int) == (kn : Int)) = true := by simp
  have HR2 := Lib.hid (RK.out.bl (HW.out.trans HB2.out))
  obtain ⟨q0, q1, q2, q3, hbk⟩ := HK.out w2 (Bl.refl _)
  go_wp2_with fail
  go_region_held3 (fun w' => w'.cell? ⟨w.heap.size, 0, none⟩ = some (.int .u8 k) ∧ w'.cell? ⟨w.heap.size, 1, none⟩ = some (.slice A keys.length c) ∧ w'.cell? ⟨w.heap.size, 2, none⟩ = some (.slice B vals.length d) ∧ w'.cell? ⟨w.heap.size, 3, none⟩ = some (.slice I kids.length ci) ∧ Bl w2 w')
    (exact HK.out _ (by (focus ((repeat (first | with_reducible assumption | exact Bl.refl _ | refine Bl.drew ?_ | refine Bl.drewN ?_ _ | refine Bl.alloc ?_ _ | (refine Bl.trans ?_ (by with_reducible assumption)))); done))))
    (first
      | (go_at_call 44; refine (node_Kid k A B I keys c vals.length d kids.length ci key _ hk (Rd.bl HR2.out (by (focus ((repeat (first | with_reducible assumption | exact Bl.refl _ | refine Bl.drew ?_ | refine Bl.drewN ?_ _ | refine Bl.alloc ?_ _ | (refine Bl.trans ?_ (by with_reducible assumption)))); done))))).mono ?_; rw [HKN.out]; rintro e w3 ⟨rfl, hbl3⟩)
      | (go_at_call 45; refine (ref_nodeKid k A B I keys c vals.length d kids.length ci key _ hk (Rd.bl HR2.out (by (focus ((repeat (first | with_reducible assumption | exact Bl.refl _ | refine Bl.drew ?_ | refine Bl.drewN ?_ _ | refine Bl.alloc ?_ _ | (refine Bl.trans ?_ (by with_reducible assumption)))); done))))).mono ?_; rw [HKN.out]; rintro e w4 ⟨rfl, hbl4⟩)
      | (go_at_call 41; refine (node_lives _).mono ?_; rintro e w5 ⟨rfl, hbl5⟩))
  go_wp2_with fail
  go_ret
  exact RetBl.mk rfl ((HW.out.trans HB2.out).trans (by (focus ((repeat (first | with_reducible assumption | exact Bl.refl _ | refine Bl.drew ?_ | refine Bl.drewN ?_ _ | refine Bl.alloc ?_ _ | (refine Bl.trans ?_ (by with_reducible assumption)))); done))))
end Go.Proofs.Ytedmamchfgkkfaa
