/- The law of layer 18 walked: lives. -/
import Derived.Test.YtedmamchfgkkfaaNodeJ
import Derived.Test.YtedmamchfgkkfaaNodeL
import Derived.Test.YtedmamchfgkkfaaDeedG
set_option linter.unusedVariables false
set_option linter.unusedSimpArgs false
namespace Go.Proofs.Ytedmamchfgkkfaa
open Go.RowKit
set_option maxRecDepth 100000
set_option maxHeartbeats 4000000

def lkeys : List ByteArray := [⟨#[98]⟩, ⟨#[100]⟩]
def lvals : List ByteArray := [⟨#[49]⟩, ⟨#[50]⟩]
theorem sLt_mk (a b : Array UInt8) : sLt ⟨a⟩ ⟨b⟩ = Op.bytesLess a.toList b.toList := by simp [sLt, ByteArray.toList_eq]
theorem nlive_lt : sLt ⟨#[98]⟩ ⟨#[100]⟩ = true ∧ sLt ⟨#[98]⟩ ⟨#[99]⟩ = true ∧ sLt ⟨#[100]⟩ ⟨#[99]⟩ = false := by
  simp only [sLt_mk]; decide
theorem nlive_right : nodeRight 1 lkeys lvals [] 6 6 = true := by
  unfold nodeRight keysOK
  rw [show List.range lkeys.length = [0, 1] from rfl]
  have h0 : keyOK lkeys 0 = true := by rfl
  have h1 : keyOK lkeys 1 = true := by
    have h : keyOK lkeys 1 = sLt ⟨#[98]⟩ ⟨#[100]⟩ := by rfl
    rw [h, nlive_lt.1]
  have h2 : valsOK lvals = true := by rfl
  simp only [List.all_cons, h0, h1, h2]
  decide
theorem nlive_put : nodePut 1 lkeys lvals [] = ([2, 1, 98, 1, 49, 1, 100, 1, 50], 0) := by
  unfold nodePut
  rw [nlive_right, if_neg (by decide)]
  simp [nodeBytes, nodeUpto, nodeHead, nodePiece, lkeys, lvals, tb, lebRowPut, lebPut_one, List.range_succ]
theorem nlive_get : nodeGet 1 [2, 1, 98, 1, 49, 1, 100, 1, 50] = ⟨1, lkeys, lvals, [], 0⟩ := by
  have h : nodeGet 1 [2, 1, 98, 1, 49, 1, 100, 1, 50] = nodeEnd 1 [2, 1, 98, 1, 49, 1, 100, 1, 50] 9 lkeys lvals [] := by rfl
  rw [h, nodeEnd, nlive_right]; rfl
theorem nlive_find : findN lkeys ⟨#[99]⟩ = 1 ∧ findIs lkeys ⟨#[99]⟩ = false := by
  have h : findN lkeys ⟨#[99]⟩ = 1 := by simp [findN, lkeys, nlive_lt]
  refine ⟨h, ?_⟩
  unfold findIs
  rw [h]; decide
theorem node_lives (w : World) : Calls Try.prog 41 #[] w (RetBl true w) := by
  have HK := Lib.hid (row_lit sv w lkeys #[.string ⟨#[98]⟩, .string ⟨#[100]⟩] 9 rfl)
  have HV := Lib.hid (row_lit sv (w.alloc (.cells #[.string ⟨#[98]⟩, .string ⟨#[100]⟩] 9)) lvals #[.string ⟨#[49]⟩, .string ⟨#[50]⟩] 9 rfl)
  have HN := Lib.hid (Ob.new ((w.alloc (.cells #[.string ⟨#[98]⟩, .string ⟨#[100]⟩] 9)).alloc (.cells #[.string ⟨#[49]⟩, .string ⟨#[50]⟩] 9)) #[.int .u8 1, .slice (some ⟨w.heap.size, 0, none⟩) 2 2, .slice (some ⟨w.heap.size + 1, 0, none⟩) 2 2, .slice none 0 0] 52)
  have HW := Lib.hid ((((Bl.refl w).alloc (.cells #[.string ⟨#[98]⟩, .string ⟨#[100]⟩] 9)).alloc (.cells #[.string ⟨#[49]⟩, .string ⟨#[50]⟩] 9)).alloc (.cells #[.int .u8 1, .slice (some ⟨w.heap.size, 0, none⟩) 2 2, .slice (some ⟨w.heap.size + 1, 0, none⟩) 2 2, .slice none 0 0] 52))
  have HK1 := Lib.hid (HK.out.bl (((Bl.refl _).alloc (.cells #[.string ⟨#[49]⟩, .string ⟨#[50]⟩] 9)).alloc (.cells #[.int .u8 1, .slice (some ⟨w.heap.size, 0, none⟩) 2 2, .slice (some ⟨w.heap.size + 1, 0, none⟩) 2 2, .slice none 0 0] 52)))
  have HV1 := Lib.hid (HV.out.bl ((Bl.refl _).alloc (.cells #[.int .u8 1, .slice (some ⟨w.heap.size, 0, none⟩) 2 2, .slice (some ⟨w.heap.size + 1, 0, none⟩) 2 2, .slice none 0 0] 52)))
  have hs1 : (w.alloc (.cells #[.string ⟨#[98]⟩, .string ⟨#[100]⟩] 9)).heap.size = w.heap.size + 1 := by simp
  have hs2 : ((w.alloc (.cells #[.string ⟨#[98]⟩, .string ⟨#[100]⟩] 9)).alloc (.cells #[.string ⟨#[49]⟩, .string ⟨#[50]⟩] 9)).heap.size = w.heap.size + 1 + 1 := by simp
  rw [hs1] at HV HV1
  rw [hs2] at HN
  clear hs1 hs2 HK HV
  go_enter Try.func41, Try.ntmps41
  go_wp2_with fail
  generalize ((w.alloc (.cells #[.string ⟨#[98]⟩, .string ⟨#[100]⟩] 9)).alloc (.cells #[.string ⟨#[49]⟩, .string ⟨#[50]⟩] 9)).alloc (.cells #[.int .u8 1, .slice (some ⟨w.heap.size, 0, none⟩) 2 2, .slice (some ⟨w.heap.size + 1, 0, none⟩) 2 2, .slice none 0 0] 52) = u at HK1 HV1 HN HW ⊢
  refine (node_Put 1 (some ⟨w.heap.size, 0, none⟩) (some ⟨w.heap.size + 1, 0, none⟩) none lkeys lvals [] 2 2 0 u (by decide) (by decide) (by decide) HK1.out HV1.out (Rd.nil _ _)).mono ?_
  rw [nlive_put]
  rintro e w1 ⟨v1, rfl, hown1, hbl1⟩
  obtain ⟨A1, c1, rfl, hcc1⟩ := hown1.slice
  have HB1 := Lib.hid hown1.rd.1
  have HL1 := Lib.hid hbl1
  have HCC := Lib.hid hcc1
  clear hown1 hbl1 hcc1
  go_wp2_with fail
  have hg := node_Get 1 A1 c1 [2, 1, 98, 1, 49, 1, 100, 1, 50] w1 (by decide) HCC.out HB1.out
  rw [nlive_get] at hg
  refine hg.mono ?_
  rintro e w2 ⟨A2, c2, B2, d2, I2, ci2, rfl, ha2, hb2, hi2, hbl2⟩
  have HA2 := Lib.hid (ha2.rd.1.bl ((Bl.refl w2).alloc (.cells #[.int .u8 1, .slice A2 lkeys.length c2, .slice B2 lvals.length d2, .slice I2 0 ci2] 52)))
  have HV2 := Lib.hid (hb2.rd.1.bl ((Bl.refl w2).alloc (.cells #[.int .u8 1, .slice A2 lkeys.length c2, .slice B2 lvals.length d2, .slice I2 0 ci2] 52)))
  have HM := Lib.hid (Ob.new w2 #[.int .u8 1, .slice A2 lkeys.length c2, .slice B2 lvals.length d2, .slice I2 0 ci2] 52)
  have HL2 := Lib.hid (hbl2.alloc (.cells #[.int .u8 1, .slice A2 lkeys.length c2, .slice B2 lvals.length d2, .slice I2 0 ci2] 52))
  obtain ⟨n0, n1, n2, n3, _⟩ := Ob.all4 (HN.out.bl (HL1.out.trans HL2.out))
  clear ha2 hb2 hi2 hg hbl2
  go_wp2_with fail
  have hf := node_Find 1 (some ⟨w.heap.size, 0, none⟩) (some ⟨w.heap.size + 1, 0, none⟩) none lkeys 2 2 2 0 0 ⟨#[99]⟩ _ (by decide) (HK1.out.bl (HL1.out.trans HL2.out))
  refine hf.mono ?_
  rintro e w3 ⟨rfl, hbl3⟩
  rw [nlive_find.1, nlive_find.2]
  obtain ⟨n0, n1, n2, n3, _⟩ := Ob.all4 (HN.out.bl ((HL1.out.trans HL2.out).trans hbl3))
  obtain ⟨m0, m1, m2, m3, _⟩ := Ob.all4 (HM.out.bl hbl3)
  have HL3 := Lib.hid hbl3
  clear hbl3 hf
  go_wp2_with fail
  have hsm := ref_nodeSame 1 1 A2 B2 I2 (some ⟨w.heap.size, 0, none⟩) (some ⟨w.heap.size + 1, 0, none⟩) none lkeys lvals lkeys lvals [] [] c2 d2 ci2 2 2 0 w3 (by decide) (by decide) (by decide) (HA2.out.bl HL3.out) (HV2.out.bl HL3.out) (Rd.nil _ _) (HK1.out.bl ((HL1.out.trans HL2.out).trans HL3.out)) (HV1.out.bl ((HL1.out.trans HL2.out).trans HL3.out)) (Rd.nil _ _)
  refine hsm.mono ?_
  rintro e w4 ⟨rfl, hbl4⟩
  rw [decide_eq_true (by simp)]
  go_wp2_with fail
  go_ret
  exact RetBl.mk rfl ((((HW.out.trans HL1.out).trans HL2.out).trans HL3.out).trans hbl4)
end Go.Proofs.Ytedmamchfgkkfaa
