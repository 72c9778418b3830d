/- Texts of the claim NodeHalves, part 8: NodeO. -/
import Derived.Test.YtedmamchfgkkfaaGNodeHalves2
import Derived.Test.YtedmamchfgkkfaaGNodeHalves7
/- Arguments of layer 18 opened: a node, a text. -/
set_option linter.unusedVariables false
set_option linter.unusedSimpArgs false
namespace Go.Proofs.Ytedmamchfgkkfaa
open Go.RowKit Go.ChangeShapes Go.WideShapes Go.Deep
set_option maxRecDepth 100000
theorem Try.bytes_node : Try.prog.cellsOf 9 = 1 ∧ Try.prog.bytesOf 9 = 16 ∧ Try.prog.cellsOf 3 = 1 ∧ Try.prog.bytesOf 3 = 8 ∧ Try.prog.cellsOf 52 = 4 := ⟨by kernel_rfl, by kernel_rfl, by kernel_rfl, by kernel_rfl, by kernel_rfl⟩
theorem open_node {H : Type} {enc : TypeId × Value → H} {w : World} {b0 base : Nat} {held : Bool} {v : Value} {d : DataW H} {p : List MemPlace} (hval : Value.okWide Try.prog w .any b0 52 v) (h : DataW.Trod enc Try.prog w base (fun _ => true) held 52 v d p) (hs : Sz Try.prog 52 d) :
    ∃ (k : Int) (A B I : Option Addr) (keys vals : List ByteArray) (kids : List Int) (c d ci : Nat), v = nodeV k A keys.length c B vals.length d I kids.length ci ∧ keys.length ≤ c ∧ vals.length ≤ d ∧ kids.length ≤ ci ∧ c * 16 ≤ 140737488351232 ∧ d * 16 ≤ 140737488351232 ∧ ci * 8 ≤ 140737488351232 ∧
      Rd w A (keys.map sv) ∧ Rd w B (vals.map sv) ∧ Rd w I (kids.map iv) ∧ (∀ s ∈ keys, s.size ≤ 140737488351232) ∧ (∀ s ∈ vals, s.size ≤ 140737488351232) ∧ (∀ z ∈ kids, -9223372036854775808 ≤ z ∧ z ≤ 9223372036854775807) := by
  obtain ⟨cs, rfl, hcs⟩ := o_struct_v Try.underlying52 hval
  obtain ⟨fuel, ht⟩ := h
  obtain ⟨hl, n, hf⟩ := o_struct Try.underlying52 (by kernel_rfl) Try.bytes_node.2.2.2.2 ht hs
  obtain ⟨v0, y0, g0, t0, z0⟩ := hf 0 _ rfl
  obtain ⟨v1, y1, g1, t1, z1⟩ := hf 1 _ rfl
  obtain ⟨v2, y2, g2, t2, z2⟩ := hf 2 _ rfl
  obtain ⟨v3, y3, g3, t3, z3⟩ := hf 3 _ rfl
  obtain rfl := list4 hl g0 g1 g2 g3
  obtain ⟨k, rfl, _⟩ := o_u8i Try.underlying48 t0
  obtain ⟨A, ks, c, rfl, h1, h2, h3, h4⟩ := o_texts Try.underlying49 Try.underlying9 Try.bytes_node.1 Try.bytes_node.2.1 t1 z1
  obtain ⟨B, vs, d, rfl, i1, i2, i3, i4⟩ := o_texts Try.underlying49 Try.underlying9 Try.bytes_node.1 Try.bytes_node.2.1 t2 z2
  obtain ⟨I, is, ci, rfl, j1, j2, j3, j4⟩ := o_ints Try.underlying50 Try.underlying3 Try.bytes_node.2.2.1 Try.bytes_node.2.2.2.1 t3 z3
  exact ⟨k, A, B, I, ks, vs, is, c, d, ci, rfl, h1, i1, j1, h2, i2, j2, h3, i3, j3, h4, i4, j4⟩
theorem open_text {H : Type} {enc : TypeId × Value → H} {w : World} {b0 base : Nat} {held : Bool} {v : Value} {d : DataW H} {p : List MemPlace} (hval : Value.okWide Try.prog w .any b0 9 v) (h : DataW.Trod enc Try.prog w base (fun _ => true) held 9 v d p) (hs : Sz Try.prog 9 d) :
    ∃ s : ByteArray, v = .string s ∧ s.size ≤ 140737488351232 := by
  obtain ⟨s, rfl⟩ := okWide_string Try.underlying9 hval
  obtain ⟨fuel, ht⟩ := h
  obtain ⟨a, ha, hsz⟩ := o_str Try.underlying9 _ _ _ ht hs
  exact ⟨a, ha, hsz⟩
end Go.Proofs.Ytedmamchfgkkfaa
