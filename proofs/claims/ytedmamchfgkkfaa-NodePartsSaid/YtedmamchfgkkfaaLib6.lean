/- Words that the proofs of this seat share: append of zeros as a step; variables of six cells. -/
import Derived.Test.YtedmamchfgkkfaaLib3
import Derived.Test.YtedmamchfgkkfaaLib4
namespace Go.Proofs.Ytedmamchfgkkfaa
open Go.RowKit
section
variable {P : Program} {ops : Array Oper} {rest : List Oper} {o : Oper} {a : Act} {Q : Exit → Act → World → Prop} {w : World}
/-- append(nil, n zeros), behind 'at_builtin'. -/
theorem append_zeros (hgd : o.guard = none) (s x : Operand) (t ti e : TypeId) (z : Value) (size bytes : Nat) (ho : o.op = .call { callee := .builtin .append, args := #[s, x], argTypes := #[t, ti] })
    (ht : P.underlying t = some (.slice e)) (hti : P.underlying ti = some (.int .i64)) (hinfo : (P.info? e).map (fun i => (i.zero, i.size, i.bytes)) = some (some z, size, bytes)) (hzs : z.cells.size = size) (hby : 0 < bytes) (base : Nat) (n : Nat) (hn0 : 0 < n)
    (hs : a.eval s = .slice none 0 0) (hx : a.eval x = .int .i64 n) (hb : n * bytes ≤ 281474976710656) (hn : n ≤ 281474976710656) (hbase : base ≤ w.heap.size)
    (h : ∀ w' cap cs, App w' base e size (.slice (some ⟨w.heap.size, 0, none⟩) n cap) n cs → Bl w w' → n ≤ cap → wpList P ops Q rest (a.put o.dst (.slice (some ⟨w.heap.size, 0, none⟩) n cap)) w') : wpList P ops Q (o :: rest) a w := by
  refine wpList_plain hgd fun K hK => ?_
  obtain ⟨v', w', cap, hr, rfl, ⟨cs, h2⟩, h3, h4⟩ := run_append_zeros (P := P) w t ti o.type e z size bytes ht hti hinfo hzs hby base n hn0 hb hn hbase
  unfold Oper.wp execOp
  simp only [ho, resolve, invoke, builtin, Sem.run_bind, Sem.run_pure, Result.andThen_ok, List.map_toArray, List.map_cons, List.map_nil, hs, hx, hr]
  exact hK _ _ (h w' cap cs h2 h3 h4)
end
theorem Ob.all6 {w : World} {g : Nat} {T : TypeId} {a0 a1 a2 a3 a4 a5 : Value} (h : Ob w g T #[a0, a1, a2, a3, a4, a5]) :
    w.cell? ⟨g, 0, none⟩ = some a0 ∧ w.cell? ⟨g, 1, none⟩ = some a1 ∧ w.cell? ⟨g, 2, none⟩ = some a2 ∧ w.cell? ⟨g, 3, none⟩ = some a3 ∧ w.cell? ⟨g, 4, none⟩ = some a4 ∧ w.cell? ⟨g, 5, none⟩ = some a5 ∧
    w.frozen? ⟨g, 0, none⟩ = false ∧ w.frozen? ⟨g, 1, none⟩ = false ∧ w.frozen? ⟨g, 2, none⟩ = false ∧ w.frozen? ⟨g, 3, none⟩ = false ∧ w.frozen? ⟨g, 4, none⟩ = false ∧ w.frozen? ⟨g, 5, none⟩ = false :=
  ⟨h.cell 0 rfl, h.cell 1 rfl, h.cell 2 rfl, h.cell 3 rfl, h.cell 4 rfl, h.cell 5 rfl, h.free 0, h.free 1, h.free 2, h.free 3, h.free 4, h.free 5⟩
theorem Ob.set6 {w : World} {g : Nat} {T : TypeId} {a0 a1 a2 a3 a4 a5 : Value} (h : Ob w g T #[a0, a1, a2, a3, a4, a5]) (b0 b1 b2 b3 b4 b5 : Value) :
    Ob ((((((w.setCell ⟨g, 0, none⟩ b0).setCell ⟨g, 1, none⟩ b1).setCell ⟨g, 2, none⟩ b2).setCell ⟨g, 3, none⟩ b3).setCell ⟨g, 4, none⟩ b4).setCell ⟨g, 5, none⟩ b5) g T #[b0, b1, b2, b3, b4, b5] ∧
    Ch [g] w ((((((w.setCell ⟨g, 0, none⟩ b0).setCell ⟨g, 1, none⟩ b1).setCell ⟨g, 2, none⟩ b2).setCell ⟨g, 3, none⟩ b3).setCell ⟨g, 4, none⟩ b4).setCell ⟨g, 5, none⟩ b5) := by
  refine ⟨?_, (((((Ch.put w g 0 b0).same (Ch.put _ g 1 b1)).same (Ch.put _ g 2 b2)).same (Ch.put _ g 3 b3)).same (Ch.put _ g 4 b4)).same (Ch.put _ g 5 b5)⟩
  have := (((((h.set 0 b0).set 1 b1).set 2 b2).set 3 b3).set 4 b4).set 5 b5
  simpa using this
/-- What was laid down by a literal of values reads so. -/
theorem row_lit {α : Type} (f : α → Value) (w : World) (xs : List α) (cs : Array Value) (e : TypeId) (h : cs = (xs.map f).toArray) : Rd (w.alloc (.cells cs e)) (some ⟨w.heap.size, 0, none⟩) (xs.map f) := by
  subst h
  have := rd_of_block (heap_alloc_new w (.cells (xs.map f).toArray e)) 0 xs.length
  rwa [List.drop_zero, List.take_of_length_le (by simp)] at this
end Go.Proofs.Ytedmamchfgkkfaa
