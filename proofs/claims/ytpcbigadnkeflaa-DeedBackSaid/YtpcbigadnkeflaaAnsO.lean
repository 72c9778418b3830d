/- Arguments of layer 22 opened: an answer. -/
import Derived.Test.YtpcbigadnkeflaaAnsA
import Derived.Test.YtpcbigadnkeflaaDeedO
namespace Go.Proofs.Ytpcbigadnkeflaa
open Go.RowKit Go.ChangeShapes Go.WideShapes Go.Deep
set_option maxRecDepth 100000
theorem Try.bytes_ans : Try.prog.cellsOf 23 = 1 ∧ Try.prog.bytesOf 23 = 8 ∧ Try.prog.cellsOf 56 = 6 := ⟨by kernel_rfl, by kernel_rfl, by kernel_rfl⟩
theorem open_ans {H : Type} {enc : TypeId × Value → H} {w : World} {b0 base : Nat} {held : Bool} {v : Value} {d : DataW H} {p : List MemPlace} (hval : Value.okWide Try.prog w .any b0 56 v) (h : DataW.Trod enc Try.prog w base (fun _ => true) held 56 v d p) (hs : Sz Try.prog 56 d) :
    ∃ (e id n : Int) (A : Option Addr) (b : List UInt8) (c : Nat) (I : Option Addr) (us : List Nat) (ci : Nat) (more : Bool), v = ansV e id n A b.length c I us.length ci more ∧ (0 ≤ id ∧ id < 18446744073709551616) ∧ n < 9223372036854775808 ∧ (b.length ≤ c ∧ c ≤ 140737488351232) ∧ (us.length ≤ ci ∧ ci * 8 ≤ 140737488351232) ∧ Rd w A (b.map bv) ∧ Rd w I (us.map wv) ∧ ∀ x ∈ us, x < 18446744073709551616 := by
  obtain ⟨cs, rfl, hcs⟩ := o_struct_v Try.underlying56 hval
  obtain ⟨fuel, ht⟩ := h
  obtain ⟨hl, n, hf⟩ := o_struct Try.underlying56 (by kernel_rfl) Try.bytes_ans.2.2 ht hs
  obtain ⟨v0, y0, g0, t0, z0⟩ := hf 0 _ rfl
  obtain ⟨v1, y1, g1, t1, z1⟩ := hf 1 _ rfl
  obtain ⟨v2, y2, g2, t2, z2⟩ := hf 2 _ rfl
  obtain ⟨v3, y3, g3, t3, z3⟩ := hf 3 _ rfl
  obtain ⟨v4, y4, g4, t4, z4⟩ := hf 4 _ rfl
  obtain ⟨v5, y5, g5, t5, z5⟩ := hf 5 _ rfl
  obtain rfl := list6 hl g0 g1 g2 g3 g4 g5
  obtain ⟨e, rfl, _⟩ := o_i64 Try.underlying28 _ _ _ t0
  obtain ⟨id, rfl, hid⟩ := o_u64i Try.underlying23 t1
  obtain ⟨m, rfl, hm⟩ := o_i64 Try.underlying3 _ _ _ t2
  obtain ⟨A, b, c, rfl, hbc, hc, hr⟩ := o_bytes Try.underlying24 Try.underlying5 Try.bytes_deed.1 Try.bytes_deed.2.1 t3 z3
  obtain ⟨I, us, ci, rfl, huc, hci, hru, hus⟩ := o_words Try.underlying54 Try.underlying23 Try.bytes_ans.1 Try.bytes_ans.2.1 t4 z4
  obtain ⟨mo, rfl⟩ := o_bool Try.underlying4 t5
  exact ⟨e, id, m, A, b, c, I, us, ci, mo, rfl, hid, by omega, ⟨hbc, hc⟩, ⟨huc, hci⟩, hr, hru, hus⟩
end Go.Proofs.Ytpcbigadnkeflaa
