/- Words that the proofs of this seat share: a text's bytes made. -/
import Derived.Test.YtedmamchfgkkfaaLib6
import Derived.Lib.ConvBytes
set_option linter.unusedVariables false
set_option linter.unusedSimpArgs false
namespace Go.Proofs.Ytedmamchfgkkfaa
open Go.RowKit
/-- A text's bytes. -/
def tb (s : ByteArray) : List UInt8 := s.data.toList
theorem tb_len (s : ByteArray) : (tb s).length = s.size := by simp [tb]
theorem tb_mk (l : List UInt8) : tb ⟨l.toArray⟩ = l := rfl
theorem tb_inj {x y : ByteArray} (h : tb x = tb y) : x = y := by
  cases x; cases y
  simp only [tb] at h
  rw [Array.toList_inj.1 h]
theorem bytes_world_bl (w : World) (e : TypeId) (s : ByteArray) : Bl w (Lib.bytesWorld w e s) := by
  refine ⟨?_, ?_, ?_, by rw [Lib.bytesWorld_size]; omega, fun j hj => Lib.bytesWorld_at_old w e s j hj⟩
  all_goals simp [Lib.bytesWorld, World.freeze, World.alloc, World.drew, -World.alloc_eq, -World.drew_eq]
theorem bytes_world_rd (w : World) (e : TypeId) (s : ByteArray) : Rd (Lib.bytesWorld w e s) (some ⟨w.heap.size, 0, none⟩) ((tb s).map bv) := fun _ => by
  refine ⟨w.heap.size, 0, rfl, fun j v hv => ?_⟩
  have hj : j < s.size := by
    have := (List.getElem?_eq_some_iff.1 hv).1
    simpa [tb_len] using this
  rw [Nat.zero_add, Lib.bytesWorld_cell w e s j hj]
  have hj2 : j < s.data.toList.length := by simpa using hj
  simp only [tb, List.getElem?_map, List.getElem?_eq_getElem hj2, Option.map_some, Option.some.injEq] at hv
  rw [← hv, bv]
  congr 2
  simp only [List.getD_eq_getElem?_getD, List.getElem?_eq_getElem hj2, Option.getD_some]
section
variable {P : Program} {ops : Array Oper} {rest : List Oper} {o : Oper} {a : Act} {Q : Exit → Act → World → Prop} {w : World}
/-- []byte(s). -/
theorem strb_step (hgd : o.guard = none) (s d e : TypeId) (x : Operand) (ho : o.op = .convert s d x) {u : TypeDesc} (hs : P.underlying s = some u) (hd : P.underlying d = some (.slice e)) (he : P.underlying e = some (.int .u8)) {t : ByteArray} (hx : a.eval x = .string t)
    (h : ∀ A c w', Rd w' A ((tb t).map bv) → Bl w w' → wpList P ops Q rest (a.put o.dst (.slice A (tb t).length c)) w') : wpList P ops Q (o :: rest) a w := by
  refine wpList_plain hgd fun K hK => ?_
  have hr := Lib.run_convert_string_bytes (P := P) w s d e t hs hd he
  unfold Oper.wp
  simp only [execOp, ho, hx]
  simp [hr, Result.andThen]
  have := h (some ⟨w.heap.size, 0, none⟩) (grownCap w t.size 0 e) _ (bytes_world_rd w e t) (bytes_world_bl w e t)
  rw [tb_len] at this
  exact hK _ _ this
/-- string(b). -/
theorem conv_step (hgd : o.guard = none) (s d e : TypeId) (x : Operand) (ho : o.op = .convert s d x) (hs : P.underlying s = some (.slice e)) (he : P.underlying e = some (.int .u8)) (hd : P.underlying d = some .string)
    {A : Option Addr} {c n : Nat} {xs : List UInt8} (hx : a.eval x = .slice A n c) (hn : n = xs.length) (hr : Rd w A (xs.map bv)) (h : wpList P ops Q rest (a.put o.dst (.string ⟨xs.toArray⟩)) w) : wpList P ops Q (o :: rest) a w := by
  subst hn
  refine wpList_plain hgd fun K hK => ?_
  have hr := conv_bytes (P := P) w s e d hs he hd A c xs hr
  unfold Oper.wp
  simp only [execOp, ho, hx]
  simp [hr, Result.andThen]
  exact hK _ _ h
end
end Go.Proofs.Ytedmamchfgkkfaa
