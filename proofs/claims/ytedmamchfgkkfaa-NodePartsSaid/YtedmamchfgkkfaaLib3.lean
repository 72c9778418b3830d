/- Words that the proofs of this seat share: bytes and strings, zeros appended to nil. -/
import Derived.Test.YtedmamchfgkkfaaLebSpec
import Derived.Test.YtedmamchfgkkfaaLib2
import Derived.Laws.BytesArg
namespace Go.Proofs.Ytedmamchfgkkfaa
open Go.RowKit
section
variable {P : Program}
theorem conv_bytes (w : World) (src e dst : TypeId) (hs : P.underlying src = some (.slice e)) (he : P.underlying e = some (.int .u8)) (hd : P.underlying dst = some .string) (A : Option Addr) (c : Nat) (xs : List UInt8) (hr : Rd w A (xs.map bv)) :
    (convert src dst (.slice A xs.length c)).run P w = .ok (.string ⟨xs.toArray⟩) w := by
  have key : strOfNums (xs.map fun b => (b.toNat : Int)) = ⟨xs.toArray⟩ := by
    unfold strOfNums
    rw [List.map_map]
    congr 2
    rw [List.map_congr_left (g := id) (fun x _ => by simp [Function.comp]), List.map_id]
  by_cases hx : xs = []
  · subst hx
    cases A with
    | none => exact run_convert_bytes_nil (P := P) w src e hs he 0 c dst hd
    | some ad =>
      obtain ⟨b, o, s⟩ := ad
      show (convert src dst (.slice (some ⟨b, o, s⟩) 0 c)).run P w = _
      rw [run_convert_bytes_string w src dst e (some ⟨b, o, s⟩) 0 c hs he hd]
      simp [Conv.bytesToString, loadCells, loadCellsFrom]
      rfl
  · obtain ⟨b, o, rfl, hc⟩ := hr (by simpa using hx)
    have := run_convert_bytes_arg (P := P) w src e hs he b o xs.length c (xs.map fun b => (b.toNat : Int)) (by simp) (fun i hi => by
      rw [hc i (bv xs[i]) (by simp [hi])]
      simp [bv, List.getD_eq_getElem?_getD, hi]) dst hd
    rwa [key] at this
/-- append(nil, n zeros). -/
theorem run_append_zeros (w : World) (t ti ty e : TypeId) (z : Value) (size bytes : Nat) (ht : P.underlying t = some (.slice e)) (hti : P.underlying ti = some (.int .i64)) (hinfo : (P.info? e).map (fun i => (i.zero, i.size, i.bytes)) = some (some z, size, bytes))
    (hzs : z.cells.size = size) (hby : 0 < bytes) (base : Nat) (n : Nat) (hn0 : 0 < n) (hb : n * bytes ≤ 281474976710656) (hn : n ≤ 281474976710656) (hbase : base ≤ w.heap.size) :
    ∃ v' w' cap, (Builtin.append_ #[t, ti] ty #[.slice none 0 0, .int .i64 n]).run P w = .ok v' w' ∧ v' = .slice (some ⟨w.heap.size, 0, none⟩) n cap ∧ (∃ cs, App w' base e size v' n cs) ∧ Bl w w' ∧ n ≤ cap := by
  obtain ⟨i, hi, hzz⟩ := Option.map_eq_some_iff.1 hinfo
  simp only [Prod.mk.injEq] at hzz
  obtain ⟨hz, hsize, hbb⟩ := hzz
  subst hsize
  subst hbb
  have hmax : n ≤ maxLen := Nat.le_trans hn (by decide)
  have hge := grownCap_ge w n 0 e
  have hcm := grownCap_le_maxLen w n 0 e hmax
  have wl : IntKind.i64.wrap (n : Int) = n := by rw [IntKind.wrap_i64]; omega
  have n1 : ¬ (n : Int) < 0 := by omega
  have n2 : ¬ (281474976710656 < (n : Int) * (i.bytes : Int)) := by rw [← Int.natCast_mul]; omega
  have n3 : ¬ (9223372036854775807 < (n : Int)) := by omega
  have n4 : ¬ (281474976710656 < Builtin.nextslicecap n 0 * i.bytes) := by rw [nextslicecap_zero hn0]; omega
  have n5 : n ≠ 0 := by omega
  refine ⟨.slice (some ⟨w.heap.size, 0, none⟩) n (grownCap w n 0 e), w.drew.alloc (.cells ((if n * i.size = 0 then #[] else Builtin.zeroCells z.cells n) ++ Builtin.zeroCells z.cells (grownCap w n 0 e - n)) e), grownCap w n 0 e, ?_, rfl, ?_, (Bl.refl w).drew.alloc _, hge⟩
  · by_cases hs0 : i.size = 0
    · simp [Builtin.append_, run_underlying ht, run_underlying hti, sizeOf, typeInfo, zeroValue, hi, hz, asInt, asIntOf, wl, n1, n2, n3, n4, n5, Question.forced, newRow, grownCap, Builtin.firstCells, hs0]
    · have hs1 : n * i.size ≠ 0 := Nat.mul_ne_zero n5 hs0
      simp [Builtin.append_, run_underlying ht, run_underlying hti, sizeOf, typeInfo, zeroValue, hi, hz, asInt, asIntOf, wl, n1, n2, n3, n4, n5, Question.forced, newRow, grownCap, Builtin.firstCells]
      split <;> simp [*]
  · have hsz : ((if n * i.size = 0 then #[] else Builtin.zeroCells z.cells n) ++ Builtin.zeroCells z.cells (grownCap w n 0 e - n)).size = grownCap w n 0 e * i.size := by
      have h1 : (if n * i.size = 0 then (#[] : Array Value) else Builtin.zeroCells z.cells n).size = n * i.size := by
        split
        · rename_i h; simp [h]
        · rw [size_zeroCells, hzs]
      rw [Array.size_append, h1, size_zeroCells, hzs, ← Nat.add_mul]
      congr 1
      omega
    refine ⟨_, ?_, .inr ⟨w.heap.size, 0, grownCap w n 0 e, _, rfl, hbase, heap_alloc_new w.drew _, hge, hcm, by rw [hsz]; omega, rfl⟩⟩
    have : n * i.size ≤ grownCap w n 0 e * i.size := Nat.mul_le_mul_right _ hge
    rw [List.drop_zero, List.length_take, Array.length_toList, hsz]
    omega
end
end Go.Proofs.Ytedmamchfgkkfaa
