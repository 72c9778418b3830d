/- Arguments of layer 22 opened: a deed. -/
import Derived.Test.YtedmamchfgkkfaaDeedB
import Derived.Test.YtedmamchfgkkfaaLib5
namespace Go.Proofs.Ytedmamchfgkkfaa
open Go.RowKit Go.ChangeShapes Go.WideShapes Go.Deep
set_option maxRecDepth 100000
theorem Try.bytes_deed : Try.prog.cellsOf 5 = 1 ∧ Try.prog.bytesOf 5 = 1 ∧ Try.prog.cellsOf 26 = 4 := ⟨by kernel_rfl, by kernel_rfl, by kernel_rfl⟩
theorem open_deed {H : Type} {enc : TypeId × Value → H} {w : World} {b0 base : Nat} {held : Bool} {v : Value} {d : DataW H} {p : List MemPlace} (hval : Value.okWide Try.prog w .any b0 26 v) (h : DataW.Trod enc Try.prog w base (fun _ => true) held 26 v d p) (hs : Sz Try.prog 26 d) :
    ∃ (k id n : Int) (A : Option Addr) (b : List UInt8) (c : Nat), v = deedV k id n A b.length c ∧ (0 ≤ id ∧ id < 18446744073709551616) ∧ b.length ≤ c ∧ c ≤ 140737488351232 ∧ Rd w A (b.map bv) := by
  obtain ⟨cs, rfl, hcs⟩ := o_struct_v Try.underlying26 hval
  obtain ⟨fuel, ht⟩ := h
  obtain ⟨hl, n, hf⟩ := o_struct Try.underlying26 (by kernel_rfl) Try.bytes_deed.2.2 ht hs
  obtain ⟨v0, y0, g0, t0, z0⟩ := hf 0 _ rfl
  obtain ⟨v1, y1, g1, t1, z1⟩ := hf 1 _ rfl
  obtain ⟨v2, y2, g2, t2, z2⟩ := hf 2 _ rfl
  obtain ⟨v3, y3, g3, t3, z3⟩ := hf 3 _ rfl
  obtain rfl := list4 hl g0 g1 g2 g3
  obtain ⟨k, rfl, _⟩ := o_u8i Try.underlying22 t0
  obtain ⟨id, rfl, hid⟩ := o_u64i Try.underlying23 t1
  obtain ⟨m, rfl, _⟩ := o_i64 Try.underlying3 _ _ _ t2
  obtain ⟨A, b, c, rfl, hbc, hc, hr⟩ := o_bytes Try.underlying24 Try.underlying5 Try.bytes_deed.1 Try.bytes_deed.2.1 t3 z3
  exact ⟨k, id, m, A, b, c, rfl, hid, hbc, hc, hr⟩
theorem open_row {H : Type} {enc : TypeId × Value → H} {w : World} {b0 base : Nat} {held : Bool} {v : Value} {d : DataW H} {p : List MemPlace} (hval : Value.okWide Try.prog w .any b0 24 v) (h : DataW.Trod enc Try.prog w base (fun _ => true) held 24 v d p) (hs : Sz Try.prog 24 d) :
    ∃ (A : Option Addr) (b : List UInt8) (c : Nat), v = .slice A b.length c ∧ b.length ≤ c ∧ c ≤ 140737488351232 ∧ Rd w A (b.map bv) := by
  obtain ⟨a, l, c, rfl⟩ := okWide_slice Try.underlying24 hval
  obtain ⟨fuel, ht⟩ := h
  exact o_bytes Try.underlying24 Try.underlying5 Try.bytes_deed.1 Try.bytes_deed.2.1 ht hs
end Go.Proofs.Ytedmamchfgkkfaa
