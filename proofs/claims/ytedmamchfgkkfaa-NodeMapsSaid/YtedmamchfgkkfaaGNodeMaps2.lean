/- Texts of the claim NodeMaps, part 2: Lib4, Lib6, StrOrd, NodeA, NodeB, DeedA, NodeC, NodeD, NodeE, NodeF, Lib7, RefLebA, RefLebB. -/
import Derived.Test.YtedmamchfgkkfaaGNodeMaps1
import Derived.Great.BuildSlice
import Derived.Lib.ConvBytes
/- Words that the proofs of this seat share: variables of several cells, and worlds in which only some old blocks have changed. -/
namespace Go.Proofs.Ytedmamchfgkkfaa
open Go.RowKit

/-- Of the old blocks only those on the list may have changed. -/
structure Ch (L : List Nat) (w w' : World) : Prop where
  os : w'.os = w.os
  tape : w'.tape = w.tape
  output : w'.output = w.output
  size : w.heap.size ≤ w'.heap.size
  block : ∀ k, k < w.heap.size → k ∉ L → w'.heap[k]? = w.heap[k]?
theorem Ch.refl (L : List Nat) (w : World) : Ch L w w := ⟨rfl, rfl, rfl, Nat.le_refl _, fun _ _ _ => rfl⟩
theorem Bl.ch {w w' : World} (h : Bl w w') (L : List Nat) : Ch L w w' := ⟨h.os, h.tape, h.output, h.size, fun k hk _ => h.block k hk⟩
theorem Ch.bl {L : List Nat} {w w' : World} (h : Ch L w w') (hL : ∀ k ∈ L, w.heap.size ≤ k) : Bl w w' := ⟨h.os, h.tape, h.output, h.size, fun k hk => h.block k hk (fun hm => by have := hL k hm; omega)⟩
theorem Ch.trans {L M : List Nat} {a b c : World} (h : Ch L a b) (k : Ch M b c) (hM : ∀ m ∈ M, m ∈ L ∨ a.heap.size ≤ m) : Ch L a c :=
  ⟨k.os.trans h.os, k.tape.trans h.tape, k.output.trans h.output, Nat.le_trans h.size k.size, fun i hi hl => (k.block i (Nat.lt_of_lt_of_le hi h.size) (fun hm => by rcases hM i hm with h2 | h2; exact hl h2; omega)).trans (h.block i hi hl)⟩
theorem Ch.same {L : List Nat} {a b c : World} (h : Ch L a b) (k : Ch L b c) : Ch L a c := h.trans k (fun _ hm => .inl hm)
theorem Ch.thenBl {L : List Nat} {a b c : World} (h : Ch L a b) (k : Bl b c) : Ch L a c := h.trans (k.ch []) (fun _ hm => by cases hm)
theorem Ch.mono {L M : List Nat} {a b : World} (h : Ch L a b) (hM : ∀ m ∈ L, m ∈ M) : Ch M a b := ⟨h.os, h.tape, h.output, h.size, fun k hk hl => h.block k hk (fun hm => hl (hM k hm))⟩
theorem Ch.grown {row : Option Nat} {w w' : World} (h : w.grownBy w' row) : Ch row.toList w w' := ⟨h.os, h.tape, h.output, h.size, fun k hk hl => h.block k hk (fun e => hl (by rw [← e]; simp))⟩
theorem Ch.toGrown {g : Nat} {w w' : World} (h : Ch [g] w w') : w.grownBy w' (some g) := ⟨h.os, h.tape, h.output, h.size, fun k hk hl => h.block k hk (fun e => hl (by simp at e; rw [e]))⟩
theorem Ch.setCell (w : World) (a : Addr) (v : Value) : Ch [a.block] w (w.setCell a v) := ⟨rfl, rfl, rfl, by simp [World.setCell], fun k _ hk => heap_setCell_other w a k v (fun e => hk (by simp [e]))⟩
theorem Ch.put (w : World) (g i : Nat) (v : Value) : Ch [g] w (w.setCell ⟨g, i, none⟩ v) := Ch.setCell w ⟨g, i, none⟩ v
theorem Ch.setRow (w : World) (g : Nat) (cs : Array Value) : Ch [g] w (w.setRow g cs) := ⟨rfl, rfl, rfl, by simp, fun k _ hk => setRow_other w g k cs (fun e => hk (by simp [e]))⟩
theorem Ch.drew {L : List Nat} {w w' : World} (h : Ch L w w') : Ch L w w'.drew := ⟨h.os, h.tape, h.output, h.size, h.block⟩
theorem Ch.drewN {L : List Nat} {w w' : World} (h : Ch L w w') (n : Nat) : Ch L w (w'.drewN n) := ⟨h.os, h.tape, h.output, h.size, h.block⟩
theorem Ch.alloc {L : List Nat} {w w' : World} (h : Ch L w w') (o : Obj) : Ch L w (w'.alloc o) := h.thenBl ((Bl.refl _).alloc o)

/-- A variable's block. -/
def Ob (w : World) (g : Nat) (T : TypeId) (cs : Array Value) : Prop := w.heap[g]? = some (.cells cs T (0, 0))
theorem Ob.lt {w : World} {g : Nat} {T : TypeId} {cs : Array Value} (h : Ob w g T cs) : g < w.heap.size := heap_lt h
theorem Ob.bl {w w' : World} {g : Nat} {T : TypeId} {cs : Array Value} (h : Ob w g T cs) (k : Bl w w') : Ob w' g T cs := k.heap h
theorem Ob.ch {L : List Nat} {w w' : World} {g : Nat} {T : TypeId} {cs : Array Value} (h : Ob w g T cs) (k : Ch L w w') (hg : g ∉ L) : Ob w' g T cs := (k.block g h.lt hg).trans h
theorem Ob.new (w : World) (cs : Array Value) (T : TypeId) : Ob (w.alloc (.cells cs T)) w.heap.size T cs := heap_alloc_new w _
theorem Ob.cell {w : World} {g : Nat} {T : TypeId} {cs : Array Value} (h : Ob w g T cs) (i : Nat) {v : Value} (hv : cs[i]? = some v) : w.cell? ⟨g, i, none⟩ = some v := (cell_of_row w g i cs T (0, 0) h).trans hv
theorem Ob.free {w : World} {g : Nat} {T : TypeId} {cs : Array Value} (h : Ob w g T cs) (i : Nat) : w.frozen? ⟨g, i, none⟩ = false := frozen_of_row w g i cs T h
theorem Ob.set {w : World} {g : Nat} {T : TypeId} {cs : Array Value} (h : Ob w g T cs) (i : Nat) (v : Value) : Ob (w.setCell ⟨g, i, none⟩ v) g T (cs.setIfInBounds i v) := heap_setCell_same w g i cs T v h
theorem Ob.set4 {w : World} {g : Nat} {T : TypeId} {a0 a1 a2 a3 : Value} (h : Ob w g T #[a0, a1, a2, a3]) (b0 b1 b2 b3 : Value) :
    Ob ((((w.setCell ⟨g, 0, none⟩ b0).setCell ⟨g, 1, none⟩ b1).setCell ⟨g, 2, none⟩ b2).setCell ⟨g, 3, none⟩ b3) g T #[b0, b1, b2, b3] ∧ Ch [g] w ((((w.setCell ⟨g, 0, none⟩ b0).setCell ⟨g, 1, none⟩ b1).setCell ⟨g, 2, none⟩ b2).setCell ⟨g, 3, none⟩ b3) := by
  refine ⟨?_, (((Ch.put w g 0 b0).same (Ch.put _ g 1 b1)).same (Ch.put _ g 2 b2)).same (Ch.put _ g 3 b3)⟩
  have := (((h.set 0 b0).set 1 b1).set 2 b2).set 3 b3
  simpa using this
theorem Ob.all4 {w : World} {g : Nat} {T : TypeId} {a0 a1 a2 a3 : Value} (h : Ob w g T #[a0, a1, a2, a3]) :
    w.cell? ⟨g, 0, none⟩ = some a0 ∧ w.cell? ⟨g, 1, none⟩ = some a1 ∧ w.cell? ⟨g, 2, none⟩ = some a2 ∧ w.cell? ⟨g, 3, none⟩ = some a3 ∧ w.frozen? ⟨g, 0, none⟩ = false ∧ w.frozen? ⟨g, 1, none⟩ = false ∧ w.frozen? ⟨g, 2, none⟩ = false ∧ w.frozen? ⟨g, 3, none⟩ = false :=
  ⟨h.cell 0 rfl, h.cell 1 rfl, h.cell 2 rfl, h.cell 3 rfl, h.free 0, h.free 1, h.free 2, h.free 3⟩
theorem Ob.row {w : World} {g : Nat} {T : TypeId} {old cs : Array Value} (h : Ob w g T old) : Ob (w.setRow g cs) g T cs := setRow_heap w g old cs T _ h
theorem Ob.app {w : World} {g : Nat} {T : TypeId} {cs : Array Value} {base n : Nat} {e : TypeId} {size : Nat} {v : Value} {xs : List Value} (h : Ob w g T cs) (k : App w base e size v n xs) (hne : T ≠ e) : v.ownBlock ≠ some g := by
  rcases k.is with ⟨rfl, _⟩ | ⟨g', o, cap, cur, rfl, _, hg, _⟩
  · simp [Value.ownBlock]
  · intro e1
    simp [Value.ownBlock] at e1
    subst e1
    have h2 : w.heap[g']? = some (.cells cs T (0, 0)) := h
    rw [h2] at hg
    injection hg with hg
    injection hg with _ ht
    exact hne ht
theorem App.ch {w w' : World} {base n : Nat} {e : TypeId} {size : Nat} {v : Value} {cs : List Value} {L : List Nat} (h : App w base e size v n cs) (k : Ch L w w') (hne : ∀ g ∈ L, v.ownBlock ≠ some g) : App w' base e size v n cs := by
  refine ⟨h.len, ?_⟩
  rcases h.is with hn | ⟨g, o, cap, cur, rfl, hb, hgg, rest⟩
  · exact .inl hn
  · exact .inr ⟨g, o, cap, cur, rfl, hb, (k.block g (heap_lt hgg) (fun hm => hne g hm rfl)).trans hgg, rest⟩
theorem Rd.ch {w w' : World} {A : Option Addr} {cs : List Value} {L : List Nat} (h : Rd w A cs) (k : Ch L w w') (hA : ∀ a, A = some a → a.block ∉ L) : Rd w' A cs := fun hn => by
  obtain ⟨b, o, rfl, hc⟩ := h hn
  refine ⟨b, o, rfl, fun j v hv => ?_⟩
  have h1 := hc j v hv
  rw [World.cell?_of_block (k.block b (World.block_lt_of_cell? w _ h1) (hA _ rfl))]
  exact h1
/-- A slice that was readable in a world lies apart from what was made behind it. -/
theorem Rd.apart {w : World} {A : Option Addr} {cs : List Value} (h : Rd w A cs) (hn : cs ≠ []) : ∀ a, A = some a → a.block < w.heap.size := by
  intro a ha
  obtain ⟨b, o, e, hc⟩ := h hn
  rw [e] at ha
  cases ha
  cases hcs : cs with
  | nil => exact absurd hcs hn
  | cons v l => exact World.block_lt_of_cell? w _ (hc 0 v (by simp [hcs]))
/-- What was readable stays so while only blocks that are newer than it change. -/
theorem Rd.later {w w1 w2 : World} {A : Option Addr} {cs : List Value} {L : List Nat} (h : Rd w A cs) (k1 : Bl w w1) (k2 : Ch L w1 w2) (hL : ∀ g ∈ L, w.heap.size ≤ g) : Rd w2 A cs :=
  h.bl ((k1.ch L).same k2 |>.bl hL)

section
variable {P : Program} {ops : Array Oper} {rest : List Oper} {o : Oper} {a : Act} {Q : Exit → Act → World → Prop} {w : World} {K : Act → World → Prop}
/-- The whole of a variable is written. -/
theorem ob_store (hgd : o.guard = none) (ty : TypeId) (x y : Operand) (ho : o.op = .store ty x y) {g : Nat} {T : TypeId} {old : Array Value} (hg : Ob w g T old) (hx : a.eval x = .pointer (some ⟨g, 0, none⟩)) {cells : Array Value} (hy : a.eval y = .agg cells)
    (hi : (P.info? ty).map (·.size) = some cells.size) (hold : old.size = cells.size) (h1 : cells.all (·.oneCell') = true)
    (h : ∀ w', Ob w' g T cells → Ch [g] w w' → w'.heap.size = w.heap.size → wpList P ops Q rest (a.put o.dst undef) w') : wpList P ops Q (o :: rest) a w :=
  wpList_store_row hgd ty x y ho g cells hx hy T old hg hi hold h1 (h _ hg.row (Ch.setRow w g cells) (by simp))
theorem ob_step_store {E : Prop} (hgd : o.guard = none) (ty : TypeId) (x y : Operand) (ho : o.op = .store ty x y) {g : Nat} {T : TypeId} {old : Array Value} (hg : Ob w g T old) (hx : a.eval x = .pointer (some ⟨g, 0, none⟩)) {cells : Array Value} (hy : a.eval y = .agg cells)
    (hi : (P.info? ty).map (·.size) = some cells.size) (hold : old.size = cells.size) (h1 : cells.all (·.oneCell') = true)
    (h : ∀ w', Ob w' g T cells → Ch [g] w w' → w'.heap.size = w.heap.size → K (a.put o.dst undef) w') : if Region.wanted o (yielded ops a.tmps) = true then Oper.wp P o a w K Q else E := by
  rw [if_pos (by simp [Region.wanted, hgd])]
  exact wp_store_row ty x y ho g cells hx hy T old hg hi hold h1 (h _ hg.row (Ch.setRow w g cells) (by simp))
/-- The whole of a variable is read. -/
theorem ob_load (hgd : o.guard = none) (ty : TypeId) (x : Operand) (ho : o.op = .load ty x) {g : Nat} {T : TypeId} {cs : Array Value} (hg : Ob w g T cs) (hx : a.eval x = .pointer (some ⟨g, 0, none⟩)) {d : TypeDesc}
    (hu : P.underlying ty = some d) (hd : (match d with | .struct _ | .array _ _ => true | _ => false) = true) (hi : (P.info? ty).map (·.size) = some cs.size)
    (h : wpList P ops Q rest (a.put o.dst (.agg cs)) w) : wpList P ops Q (o :: rest) a w := wpList_load_row hgd ty x ho g hx T cs (0, 0) d hg hu hd hi h
/-- One cell of a variable is written. -/
theorem ob_put (hgd : o.guard = none) (ty : TypeId) (x y : Operand) (ho : o.op = .store ty x y) {g i : Nat} {T : TypeId} {cs : Array Value} (hg : Ob w g T cs) (hx : a.eval x = .pointer (some ⟨g, i, none⟩)) {v : Value} (hy : a.eval y = v) (hv : v.oneCell' = true)
    (hi : (P.info? ty).map (·.size) = some 1) (hlt : i < cs.size)
    (h : ∀ w', Ob w' g T (cs.setIfInBounds i v) → Ch [g] w w' → w'.heap.size = w.heap.size → wpList P ops Q rest (a.put o.dst undef) w') : wpList P ops Q (o :: rest) a w := by
  refine wpList_plain hgd fun K hK => ?_
  have hst := run_storeCells_at P g i T [v] 0 cs w hg (by simp; omega) (fun u hu => by simp at hu; subst hu; exact hv)
  obtain ⟨inf, hinf, hs⟩ := Option.map_eq_some_iff.1 hi
  have hcv : v.cells = #[v] := by cases v <;> first | rfl | cases hv
  have hrun : (storeVar ty ⟨g, i, none⟩ v).run P w = .ok () (w.setRow g (cs.toList.take (i + 0) ++ [v] ++ cs.toList.drop (i + 0 + [v].length)).toArray) := by
    simp [storeVar, hcv, sizeOf, typeInfo, hinf, hs, hst]
  have hset : (cs.toList.take (i + 0) ++ [v] ++ cs.toList.drop (i + 0 + [v].length)).toArray = cs.setIfInBounds i v := by
    apply Array.ext'
    simp only [Nat.add_zero, List.length_singleton, List.append_assoc, List.singleton_append, Array.toList_setIfInBounds]
    rw [List.set_eq_take_append_cons_drop, if_pos (by simpa using hlt)]
  rw [hset] at hrun
  unfold Oper.wp execOp
  simp only [ho, hx, hy, Instr.storeAt, Instr.sureAddr, Sem.run_bind, Sem.run_pure, Result.andThen_ok, hrun]
  exact hK _ _ (h _ hg.row (Ch.setRow w g _) (by simp))
end
/-- A struct's variable and one value are handed back. -/
theorem results_ct {P : Program} {fn : Func} {p q : Tmp} {ty : TypeId} (h : fn.results = #[.cell p ty, .tmp q]) (tmps : Array Value) (w : World) {g : Nat} {T : TypeId} {cs : Array Value} {d : TypeDesc} (hg : Ob w g T cs)
    (hp : tmps.getD p undef = .pointer (some ⟨g, 0, none⟩)) {v : Value} (hq : tmps.getD q undef = v)
    (hu : P.underlying ty = some d) (hd : (match d with | .struct _ | .array _ _ => true | _ => false) = true) (hi : (P.info? ty).map (·.size) = some cs.size) :
    (results fn tmps).run P w = .ok (.tuple #[.agg cs, v]) w := by
  have hp' : tmps[p]?.getD undef = .pointer (some ⟨g, 0, none⟩) := by simpa using hp
  have hq' : tmps[q]?.getD undef = v := by simpa using hq
  simp [results, h, hp', hq', asAddr, run_loadVar_row w g T ty cs (0, 0) d hg hu hd hi]
theorem results_c {P : Program} {fn : Func} {p : Tmp} {ty : TypeId} (h : fn.results = #[.cell p ty]) (tmps : Array Value) (w : World) {g : Nat} {T : TypeId} {cs : Array Value} {d : TypeDesc} (hg : Ob w g T cs)
    (hp : tmps.getD p undef = .pointer (some ⟨g, 0, none⟩))
    (hu : P.underlying ty = some d) (hd : (match d with | .struct _ | .array _ _ => true | _ => false) = true) (hi : (P.info? ty).map (·.size) = some cs.size) :
    (results fn tmps).run P w = .ok (.agg cs) w := results_cell_row h tmps w g T cs (0, 0) d hp hg hu hd hi
theorem results_ctct {P : Program} {fn : Func} {p q p2 q2 : Tmp} {ty : TypeId} (h : fn.results = #[.cell p ty, .tmp q, .cell p2 ty, .tmp q2]) (tmps : Array Value) (w : World) {g g2 : Nat} {T T2 : TypeId} {cs cs2 : Array Value} {d : TypeDesc} (hg : Ob w g T cs) (hg2 : Ob w g2 T2 cs2)
    (hp : tmps.getD p undef = .pointer (some ⟨g, 0, none⟩)) {v : Value} (hq : tmps.getD q undef = v) (hp2 : tmps.getD p2 undef = .pointer (some ⟨g2, 0, none⟩)) {v2 : Value} (hq2 : tmps.getD q2 undef = v2)
    (hu : P.underlying ty = some d) (hd : (match d with | .struct _ | .array _ _ => true | _ => false) = true) (hi : (P.info? ty).map (·.size) = some cs.size) (hi2 : (P.info? ty).map (·.size) = some cs2.size) :
    (results fn tmps).run P w = .ok (.tuple #[.agg cs, v, .agg cs2, v2]) w := by
  have hp' : tmps[p]?.getD undef = .pointer (some ⟨g, 0, none⟩) := by simpa using hp
  have hq' : tmps[q]?.getD undef = v := by simpa using hq
  have hp2' : tmps[p2]?.getD undef = .pointer (some ⟨g2, 0, none⟩) := by simpa using hp2
  have hq2' : tmps[q2]?.getD undef = v2 := by simpa using hq2
  simp [results, h, hp', hq', hp2', hq2', asAddr, run_loadVar_row w g T ty cs (0, 0) d hg hu hd hi, run_loadVar_row w g2 T2 ty cs2 (0, 0) d hg2 hu hd hi2]
end Go.Proofs.Ytedmamchfgkkfaa
/- Words that the proofs of this seat share: append of zeros as a step; variables of six cells. -/
namespace Go.Proofs.Ytedmamchfgkkfaa
open Go.RowKit
section
variable {P : Program} {ops : Array Oper} {rest : List Oper} {o : Oper} {a : Act} {Q : Exit → Act → World → Prop} {w : World}
/-- append(nil, n zeros), behind 'at_builtin'. -/
theorem append_zeros (hgd : o.guard = none) (s x : Operand) (t ti e : TypeId) (z : Value) (size bytes : Nat) (ho : o.op = .call { callee := .builtin .append, args := #[s, x], argTypes := #[t, ti] })
    (ht : P.underlying t = some (.slice e)) (hti : P.underlying ti = some (.int .i64)) (hinfo : (P.info? e).map (fun i => (i.zero, i.size, i.bytes)) = some (some z, size, bytes)) (hzs : z.cells.size = size) (hby : 0 < bytes) (base : Nat) (n : Nat) (hn0 : 0 < n)
    (hs : a.eval s = .slice none 0 0) (hx : a.eval x = .int .i64 n) (hb : n * bytes ≤ 281474976710656) (hn : n ≤ 281474976710656) (hbase : base ≤ w.heap.size)
    (h : ∀ w' cap cs, App w' base e size (.slice (some ⟨w.heap.size, 0, none⟩) n cap) n cs → Bl w w' → n ≤ cap → wpList P ops Q rest (a.put o.dst (.slice (some ⟨w.heap.size, 0, none⟩) n cap)) w') : wpList P ops Q (o :: rest) a w := by
  refine wpList_plain hgd fun K hK => ?_
  obtain ⟨v', w', cap, hr, rfl, ⟨cs, h2⟩, h3, h4⟩ := run_append_zeros (P := P) w t ti o.type e z size bytes ht hti hinfo hzs hby base n hn0 hb hn hbase
  unfold Oper.wp execOp
  simp only [ho, resolve, invoke, builtin, Sem.run_bind, Sem.run_pure, Result.andThen_ok, List.map_toArray, List.map_cons, List.map_nil, hs, hx, hr]
  exact hK _ _ (h w' cap cs h2 h3 h4)
end
theorem Ob.all6 {w : World} {g : Nat} {T : TypeId} {a0 a1 a2 a3 a4 a5 : Value} (h : Ob w g T #[a0, a1, a2, a3, a4, a5]) :
    w.cell? ⟨g, 0, none⟩ = some a0 ∧ w.cell? ⟨g, 1, none⟩ = some a1 ∧ w.cell? ⟨g, 2, none⟩ = some a2 ∧ w.cell? ⟨g, 3, none⟩ = some a3 ∧ w.cell? ⟨g, 4, none⟩ = some a4 ∧ w.cell? ⟨g, 5, none⟩ = some a5 ∧
    w.frozen? ⟨g, 0, none⟩ = false ∧ w.frozen? ⟨g, 1, none⟩ = false ∧ w.frozen? ⟨g, 2, none⟩ = false ∧ w.frozen? ⟨g, 3, none⟩ = false ∧ w.frozen? ⟨g, 4, none⟩ = false ∧ w.frozen? ⟨g, 5, none⟩ = false :=
  ⟨h.cell 0 rfl, h.cell 1 rfl, h.cell 2 rfl, h.cell 3 rfl, h.cell 4 rfl, h.cell 5 rfl, h.free 0, h.free 1, h.free 2, h.free 3, h.free 4, h.free 5⟩
theorem Ob.set6 {w : World} {g : Nat} {T : TypeId} {a0 a1 a2 a3 a4 a5 : Value} (h : Ob w g T #[a0, a1, a2, a3, a4, a5]) (b0 b1 b2 b3 b4 b5 : Value) :
    Ob ((((((w.setCell ⟨g, 0, none⟩ b0).setCell ⟨g, 1, none⟩ b1).setCell ⟨g, 2, none⟩ b2).setCell ⟨g, 3, none⟩ b3).setCell ⟨g, 4, none⟩ b4).setCell ⟨g, 5, none⟩ b5) g T #[b0, b1, b2, b3, b4, b5] ∧
    Ch [g] w ((((((w.setCell ⟨g, 0, none⟩ b0).setCell ⟨g, 1, none⟩ b1).setCell ⟨g, 2, none⟩ b2).setCell ⟨g, 3, none⟩ b3).setCell ⟨g, 4, none⟩ b4).setCell ⟨g, 5, none⟩ b5) := by
  refine ⟨?_, (((((Ch.put w g 0 b0).same (Ch.put _ g 1 b1)).same (Ch.put _ g 2 b2)).same (Ch.put _ g 3 b3)).same (Ch.put _ g 4 b4)).same (Ch.put _ g 5 b5)⟩
  have := (((((h.set 0 b0).set 1 b1).set 2 b2).set 3 b3).set 4 b4).set 5 b5
  simpa using this
/-- What was laid down by a literal of values reads so. -/
theorem row_lit {α : Type} (f : α → Value) (w : World) (xs : List α) (cs : Array Value) (e : TypeId) (h : cs = (xs.map f).toArray) : Rd (w.alloc (.cells cs e)) (some ⟨w.heap.size, 0, none⟩) (xs.map f) := by
  subst h
  have := rd_of_block (heap_alloc_new w (.cells (xs.map f).toArray e)) 0 xs.length
  rwa [List.drop_zero, List.take_of_length_le (by simp)] at this
end Go.Proofs.Ytedmamchfgkkfaa
/- The order of texts as the model compares them: plain laws. No program in sight. -/
namespace Go.Proofs.Ytedmamchfgkkfaa
open Go.RowKit

theorem less_lex (x : List UInt8) : ∀ y : List UInt8, Op.bytesLess x y = decide (x < y) := by
  induction x with
  | nil => intro y; cases y <;> simp [Op.bytesLess]
  | cons a x ih =>
    intro y
    cases y with
    | nil => simp [Op.bytesLess]
    | cons b y =>
      rw [Op.bytesLess, ih y]
      simp only [List.cons_lt_cons_iff]
      by_cases h1 : a < b <;> by_cases h2 : a = b <;> by_cases h3 : x < y <;> simp [h1, h2, h3]
/-- x stands ahead of y. -/
def sLt (x y : ByteArray) : Bool := Op.bytesLess x.toList y.toList
theorem sLt_iff (x y : ByteArray) : sLt x y = true ↔ x.toList < y.toList := by
  unfold sLt; rw [less_lex]; simp
theorem sLt_irrefl (x : ByteArray) : sLt x x = false := by
  cases h : sLt x x
  · rfl
  · exact absurd ((sLt_iff x x).1 h) (List.lt_irrefl _)
theorem sLt_trans {x y z : ByteArray} (h : sLt x y = true) (k : sLt y z = true) : sLt x z = true := (sLt_iff x z).2 (List.lt_trans ((sLt_iff x y).1 h) ((sLt_iff y z).1 k))
theorem sLt_asymm {x y : ByteArray} (h : sLt x y = true) : sLt y x = false := by
  cases k : sLt y x
  · rfl
  · have := sLt_trans h k
    rw [sLt_irrefl] at this
    cases this
theorem sLt_total {x y : ByteArray} (h : sLt x y = false) (k : sLt y x = false) : x = y := by
  have h1 : ¬ x.toList < y.toList := fun e => by rw [(sLt_iff x y).2 e] at h; cases h
  have h2 : ¬ y.toList < x.toList := fun e => by rw [(sLt_iff y x).2 e] at k; cases k
  exact str_inj (List.le_antisymm (List.not_lt.1 h2) (List.not_lt.1 h1))
end Go.Proofs.Ytedmamchfgkkfaa
/- Layer 18 (node) and its reference walked: Find, Kid. -/
namespace Go.Proofs.Ytedmamchfgkkfaa
open Go.RowKit
set_option maxRecDepth 100000
set_option maxHeartbeats 2000000

abbrev nodeV (k : Int) (A : Option Addr) (ks c : Nat) (B : Option Addr) (vs d : Nat) (I : Option Addr) (ns ci : Nat) : Value := .agg #[.int .u8 k, .slice A ks c, .slice B vs d, .slice I ns ci]
/-- How many keys stand ahead of a key; and how many not behind it. -/
def findN (keys : List ByteArray) (key : ByteArray) : Nat := keys.countP (fun x => sLt x key)
def kidN (keys : List ByteArray) (key : ByteArray) : Nat := keys.countP (fun x => !sLt key x)
def findIs (keys : List ByteArray) (key : ByteArray) : Bool := decide (keys[findN keys key]? = some key)
theorem countP_step {α : Type} (p : α → Bool) (l : List α) (j : Nat) (x : α) (h : l[j]? = some x) : (l.take (j + 1)).countP p = (l.take j).countP p + if p x then 1 else 0 := by
  rw [List.take_add_one, h, List.countP_append]; simp [List.countP_cons]
theorem countP_le_take {α : Type} (p : α → Bool) (l : List α) (j : Nat) : (l.take j).countP p ≤ j := Nat.le_trans List.countP_le_length (by rw [List.length_take]; omega)
theorem leq_not (x y : ByteArray) : (!sLt y x) = true ↔ (Op.bytesLess x.toList y.toList = true ∨ (x.toList == y.toList) = true) := by
  constructor
  · intro h
    have h1 : sLt y x = false := by simpa using h
    cases h2 : sLt x y
    · right; rw [sLt_total h2 h1]; simp
    · left; exact h2
  · rintro (h | h)
    · rw [sLt_asymm (show sLt x y = true from h)]; rfl
    · have : x = y := str_inj (by simpa using h)
      rw [this, sLt_irrefl]; rfl
theorem node_Kid (k : Int) (A B I : Option Addr) (keys : List ByteArray) (c vs d ns ci : Nat) (key : ByteArray) (w : World) (hl : keys.length ≤ 281474976710656) (hr : Rd w A (keys.map sv)) :
    Calls Try.prog 44 #[nodeV k A keys.length c B vs d I ns ci, .string key] w (fun e w' => e = .returned (.int .i64 (kidN keys key)) ∧ Bl w w') := by
  have HR := Lib.hid hr
  have HO := Lib.hid (Ob.new w #[.int .u8 k, .slice A keys.length c, .slice B vs d, .slice I ns ci] 52)
  have HW := Lib.hid ((Bl.refl w).alloc (.cells #[.int .u8 k, .slice A keys.length c, .slice B vs d, .slice I ns ci] 52))
  clear hr
  go_enter Try.func44, Try.ntmps44
  go_wp2_with fail
  generalize w.alloc (.cells #[.int .u8 k, .slice A keys.length c, .slice B vs d, .slice I ns ci] 52) = u at HO HW ⊢
  go_loopw [5, 7, 11] (fun s _ i wr => ∃ j : Nat, j ≤ keys.length ∧ i = .int .i64 j ∧ s = .int .i64 (kidN (keys.take j) key : Nat) ∧ wr = u) (fun _ _ i _ => keys.length - (intOf i).toNat)
  case atStart => exact ⟨0, by omega, rfl, by simp [kidN], rfl⟩
  case round =>
    obtain ⟨j, hj, rfl, rfl, hwr⟩ := hrel
    have hwr2 := hwr.symm
    clear hwr
    subst hwr2
    have hm := countP_le_take (fun x => !sLt key x) keys j
    obtain ⟨o0, o1, o2, o3, _⟩ := Ob.all4 HO.out
    by_cases hlt : j < keys.length
    · obtain ⟨x, hx⟩ := get_some keys j hlt
      obtain ⟨b, o, rfl, hc⟩ := (HR.out.bl HW.out).get hx
      simp only [sv] at hc
      have hst := countP_step (fun x => !sLt key x) keys j x hx
      have HST := Lib.hid hst
      clear hx hst
      unfold kidN
      generalize (keys.take j).countP (fun x => !sLt key x) = m at HST hm ⊢
      cases hs : sLt key x
      · have HS := Lib.hid hs
        have hcmp : Op.bytesLess x.toList key.toList = true ∨ (Op.bytesLess x.toList key.toList = false ∧ (x.toList == key.toList) = true) := by
          rcases (leq_not x key).1 (by rw [hs]; rfl) with h | h
          · exact .inl h
          · cases h2 : Op.bytesLess x.toList key.toList
            · exact .inr ⟨rfl, h⟩
            · exact .inl rfl
        clear hs
        rcases hcmp with h1 | ⟨h1, h2⟩
        all_goals
          go_wp2_with fail
          go_roundw
          case rel => exact ⟨j + 1, by omega, by go_num, by rw [HST.out, HS.out]; go_num, trivial⟩
          case measure => simp [intOf]; omega
      · have HS := Lib.hid hs
        have hc1 : Op.bytesLess x.toList key.toList = false := by
          cases h : Op.bytesLess x.toList key.toList
          · rfl
          · have := (leq_not x key).2 (.inl h); rw [hs] at this; cases this
        have hc2 : (x.toList == key.toList) = false := by
          cases h : (x.toList == key.toList)
          · rfl
          · have := (leq_not x key).2 (.inr h); rw [hs] at this; cases this
        clear hs
        go_wp2_with fail
        go_roundw
        case rel => exact ⟨j + 1, by omega, by go_num, by rw [HST.out, HS.out]; simp, trivial⟩
        case measure => simp [intOf]; omega
    · obtain rfl : j = keys.length := by omega
      rw [List.take_length]
      go_wp2_with fail
      go_ret
      exact ⟨rfl, HW.out⟩
theorem ref_nodeKid (k : Int) (A B I : Option Addr) (keys : List ByteArray) (c vs d ns ci : Nat) (key : ByteArray) (w : World) (hl : keys.length ≤ 281474976710656) (hr : Rd w A (keys.map sv)) :
    Calls Try.prog 45 #[nodeV k A keys.length c B vs d I ns ci, .string key] w (fun e w' => e = .returned (.int .i64 (kidN keys key)) ∧ Bl w w') := by
  have HR := Lib.hid hr
  have HO := Lib.hid (Ob.new w #[.int .u8 k, .slice A keys.length c, .slice B vs d, .slice I ns ci] 52)
  have HW := Lib.hid ((Bl.refl w).alloc (.cells #[.int .u8 k, .slice A keys.length c, .slice B vs d, .slice I ns ci] 52))
  clear hr
  go_enter Try.func45, Try.ntmps45
  go_wp2_with fail
  generalize w.alloc (.cells #[.int .u8 k, .slice A keys.length c, .slice B vs d, .slice I ns ci] 52) = u at HO HW ⊢
  go_loopw [5, 6] (fun s i wr => ∃ j : Nat, j ≤ keys.length ∧ i = .int .i64 j ∧ s = .int .i64 (kidN (keys.take j) key : Nat) ∧ wr = u) (fun _ i _ => keys.length - (intOf i).toNat)
  case atStart => exact ⟨0, by omega, rfl, by simp [kidN], rfl⟩
  case round =>
    obtain ⟨j, hj, rfl, rfl, hwr⟩ := hrel
    have hwr2 := hwr.symm
    clear hwr
    subst hwr2
    have hm := countP_le_take (fun x => !sLt key x) keys j
    obtain ⟨o0, o1, o2, o3, _⟩ := Ob.all4 HO.out
    by_cases hlt : j < keys.length
    · obtain ⟨x, hx⟩ := get_some keys j hlt
      obtain ⟨b, o, rfl, hc⟩ := (HR.out.bl HW.out).get hx
      simp only [sv] at hc
      have hst := countP_step (fun x => !sLt key x) keys j x hx
      have HST := Lib.hid hst
      clear hx hst
      unfold kidN
      generalize (keys.take j).countP (fun x => !sLt key x) = m at HST hm ⊢
      cases hs : sLt key x
      · have HS := Lib.hid hs
        have hcmp : Op.bytesLess key.toList x.toList = false := hs
        clear hs
        go_wp2_with fail
        go_roundw
        case rel => exact ⟨j + 1, by omega, by go_num, by rw [HST.out, HS.out]; go_num, trivial⟩
        case measure => simp [intOf]; omega
      · have HS := Lib.hid hs
        have hcmp : Op.bytesLess key.toList x.toList = true := hs
        clear hs
        go_wp2_with fail
        go_roundw
        case rel => exact ⟨j + 1, by omega, by go_num, by rw [HST.out, HS.out]; simp, trivial⟩
        case measure => simp [intOf]; omega
    · obtain rfl : j = keys.length := by omega
      rw [List.take_length]
      go_wp2_with fail
      go_ret
      exact ⟨rfl, HW.out⟩
end Go.Proofs.Ytedmamchfgkkfaa
/- Layer 18 (node) and its reference walked: Find. -/
namespace Go.Proofs.Ytedmamchfgkkfaa
open Go.RowKit
set_option maxRecDepth 100000
set_option maxHeartbeats 2000000

def RetFind (keys : List ByteArray) (key : ByteArray) (w : World) (e : Ending) (w' : World) : Prop := e = .returned (.tuple #[.int .i64 (findN keys key), .bool (findIs keys key)]) ∧ Bl w w'
theorem RetFind.mk {keys : List ByteArray} {key : ByteArray} {w w' : World} {m : Nat} {z : Bool} (h : m = findN keys key) (h2 : z = findIs keys key) (hb : Bl w w') : RetFind keys key w (.returned (.tuple #[.int .i64 m, .bool z])) w' := by subst h h2; exact ⟨rfl, hb⟩
theorem node_Find (k : Int) (A B I : Option Addr) (keys : List ByteArray) (c vs d ns ci : Nat) (key : ByteArray) (w : World) (hl : keys.length ≤ 281474976710656) (hr : Rd w A (keys.map sv)) :
    Calls Try.prog 42 #[nodeV k A keys.length c B vs d I ns ci, .string key] w (RetFind keys key w) := by
  have HR := Lib.hid hr
  have HO := Lib.hid (Ob.new w #[.int .u8 k, .slice A keys.length c, .slice B vs d, .slice I ns ci] 52)
  have HW := Lib.hid ((Bl.refl w).alloc (.cells #[.int .u8 k, .slice A keys.length c, .slice B vs d, .slice I ns ci] 52))
  clear hr
  go_enter Try.func42, Try.ntmps42
  go_wp2_with fail
  generalize w.alloc (.cells #[.int .u8 k, .slice A keys.length c, .slice B vs d, .slice I ns ci] 52) = u at HO HW ⊢
  go_loopw [6, 8, 12] (fun s _ i wr => ∃ j : Nat, j ≤ keys.length ∧ i = .int .i64 j ∧ s = .int .i64 (findN (keys.take j) key : Nat) ∧ wr = u) (fun _ _ i _ => keys.length - (intOf i).toNat)
  case atStart => exact ⟨0, by omega, rfl, by simp [findN], rfl⟩
  case round =>
    obtain ⟨j, hj, rfl, rfl, hwr⟩ := hrel
    have hwr2 := hwr.symm
    clear hwr
    subst hwr2
    have hm := countP_le_take (fun x => sLt x key) keys j
    obtain ⟨o0, o1, o2, o3, _⟩ := Ob.all4 HO.out
    by_cases hlt : j < keys.length
    · obtain ⟨x, hx⟩ := get_some keys j hlt
      obtain ⟨b, o, rfl, hc⟩ := (HR.out.bl HW.out).get hx
      simp only [sv] at hc
      have hst := countP_step (fun x => sLt x key) keys j x hx
      have HST := Lib.hid hst
      clear hx hst
      unfold findN
      generalize (keys.take j).countP (fun x => sLt x key) = m at HST hm ⊢
      cases hs : sLt x key
      · have HS := Lib.hid hs
        have hcmp : Op.bytesLess x.toList key.toList = false := hs
        clear hs
        go_wp2_with fail
        go_roundw
        case rel => exact ⟨j + 1, by omega, by go_num, by rw [HST.out, HS.out]; simp, trivial⟩
        case measure => simp [intOf]; omega
      · have HS := Lib.hid hs
        have hcmp : Op.bytesLess x.toList key.toList = true := hs
        clear hs
        go_wp2_with fail
        go_roundw
        case rel => exact ⟨j + 1, by omega, by go_num, by rw [HST.out, HS.out]; go_num, trivial⟩
        case measure => simp [intOf]; omega
    · obtain rfl : j = keys.length := by omega
      rw [List.take_length]
      have HM := Lib.hid (show keys.countP (fun x => sLt x key) = findN keys key from rfl)
      rw [List.take_length] at hm
      unfold findN
      generalize keys.countP (fun x => sLt x key) = m at HM hm ⊢
      by_cases hmk : m < keys.length
      · obtain ⟨x, hx⟩ := get_some keys m hmk
        obtain ⟨b, o, rfl, hc⟩ := (HR.out.bl HW.out).get hx
        simp only [sv] at hc
        have HI := Lib.hid (show (x.toList == key.toList) = findIs keys key by
          unfold findIs
          rw [← HM.out, hx, Bool.eq_iff_iff]
          simp only [beq_iff_eq, decide_eq_true_eq, Option.some.injEq]
          exact ⟨str_inj, fun h => by rw [h]⟩)
        clear hx
        go_wp2_with fail
        go_quiet (fail)
        go_wp2_with fail
        go_ret2
        exact RetFind.mk HM.out HI.out (HW.out.drewN _)
      · have HI := Lib.hid (show false = findIs keys key by
          unfold findIs
          rw [← HM.out, List.getElem?_eq_none (by omega)]; simp)
        go_wp2_with fail
        go_quiet (fail)
        go_wp2_with fail
        go_ret2
        exact RetFind.mk HM.out HI.out (HW.out.drewN _)
theorem ref_nodeFind (k : Int) (A B I : Option Addr) (keys : List ByteArray) (c vs d ns ci : Nat) (key : ByteArray) (w : World) (hl : keys.length ≤ 281474976710656) (hr : Rd w A (keys.map sv)) :
    Calls Try.prog 43 #[nodeV k A keys.length c B vs d I ns ci, .string key] w (RetFind keys key w) := by
  have HR := Lib.hid hr
  have HO := Lib.hid (Ob.new w #[.int .u8 k, .slice A keys.length c, .slice B vs d, .slice I ns ci] 52)
  have HW := Lib.hid ((Bl.refl w).alloc (.cells #[.int .u8 k, .slice A keys.length c, .slice B vs d, .slice I ns ci] 52))
  clear hr
  go_enter Try.func43, Try.ntmps43
  go_wp2_with fail
  generalize w.alloc (.cells #[.int .u8 k, .slice A keys.length c, .slice B vs d, .slice I ns ci] 52) = u at HO HW ⊢
  go_loopw [6, 7] (fun s i wr => ∃ j : Nat, j ≤ keys.length ∧ i = .int .i64 j ∧ s = .int .i64 (findN (keys.take j) key : Nat) ∧ wr = u) (fun _ i _ => keys.length - (intOf i).toNat)
  case atStart => exact ⟨0, by omega, rfl, by simp [findN], rfl⟩
  case round =>
    obtain ⟨j, hj, rfl, rfl, hwr⟩ := hrel
    have hwr2 := hwr.symm
    clear hwr
    subst hwr2
    have hm := countP_le_take (fun x => sLt x key) keys j
    obtain ⟨o0, o1, o2, o3, _⟩ := Ob.all4 HO.out
    by_cases hlt : j < keys.length
    · obtain ⟨x, hx⟩ := get_some keys j hlt
      obtain ⟨b, o, rfl, hc⟩ := (HR.out.bl HW.out).get hx
      simp only [sv] at hc
      have hst := countP_step (fun x => sLt x key) keys j x hx
      have HST := Lib.hid hst
      clear hx hst
      unfold findN
      generalize (keys.take j).countP (fun x => sLt x key) = m at HST hm ⊢
      cases hs : sLt x key
      · have HS := Lib.hid hs
        have hcmp : Op.bytesLess x.toList key.toList = false := hs
        clear hs
        go_wp2_with fail
        go_roundw
        case rel => exact ⟨j + 1, by omega, by go_num, by rw [HST.out, HS.out]; simp, trivial⟩
        case measure => simp [intOf]; omega
      · have HS := Lib.hid hs
        have hcmp : Op.bytesLess x.toList key.toList = true := hs
        clear hs
        go_wp2_with fail
        go_roundw
        case rel => exact ⟨j + 1, by omega, by go_num, by rw [HST.out, HS.out]; go_num, trivial⟩
        case measure => simp [intOf]; omega
    · obtain rfl : j = keys.length := by omega
      rw [List.take_length]
      have HM := Lib.hid (show keys.countP (fun x => sLt x key) = findN keys key from rfl)
      rw [List.take_length] at hm
      unfold findN
      generalize keys.countP (fun x => sLt x key) = m at HM hm ⊢
      by_cases hmk : m < keys.length
      · obtain ⟨x, hx⟩ := get_some keys m hmk
        obtain ⟨b, o, rfl, hc⟩ := (HR.out.bl HW.out).get hx
        simp only [sv] at hc
        have HI := Lib.hid (show (x.toList == key.toList) = findIs keys key by
          unfold findIs
          rw [← HM.out, hx, Bool.eq_iff_iff]
          simp only [beq_iff_eq, decide_eq_true_eq, Option.some.injEq]
          exact ⟨str_inj, fun h => by rw [h]⟩)
        clear hx
        go_wp2_with fail
        go_quiet (fail)
        go_wp2_with fail
        go_ret2
        exact RetFind.mk HM.out HI.out (HW.out.drewN _)
      · have HI := Lib.hid (show false = findIs keys key by
          unfold findIs
          rw [← HM.out, List.getElem?_eq_none (by omega)]; simp)
        go_wp2_with fail
        go_quiet (fail)
        go_wp2_with fail
        go_ret2
        exact RetFind.mk HM.out HI.out (HW.out.drewN _)
end Go.Proofs.Ytedmamchfgkkfaa
/- Layer 22 (deed) and its reference walked: May, Changes. -/
namespace Go.Proofs.Ytedmamchfgkkfaa
open Go.RowKit
set_option maxRecDepth 100000
set_option maxHeartbeats 2000000

/-- Which deeds may be: the kind, the Id, N, how many bytes. -/
def deedMay (k id n : Int) (m : Nat) : Bool := decide (1 ≤ k ∧ k ≤ 9 ∧ 0 ≤ n ∧ n ≤ 65536 ∧ (k = 5 ∨ n = 0) ∧ (k = 2 ∨ k = 3 ∨ k = 4 ∨ k = 5 ∨ id = 0) ∧ (k = 1 ∨ k = 9 ∨ m = 0))
def deedChanges (k id n : Int) (m : Nat) : Bool := deedMay k id n m && decide (k = 1 ∨ k = 2 ∨ k = 7 ∨ k = 9)
def RetBl (b : Bool) (w : World) (e : Ending) (w' : World) : Prop := e = .returned (.bool b) ∧ Bl w w'
theorem RetBl.mk {b b' : Bool} {w w' : World} (h : b' = b) (hw : Bl w w') : RetBl b w (.returned (.bool b')) w' := ⟨by rw [h], hw⟩
abbrev deedV (k id n : Int) (A : Option Addr) (m c : Nat) : Value := .agg #[.int .u8 k, .int .u64 id, .int .i64 n, .slice A m c]

theorem deed_May (k id n : Int) (A : Option Addr) (m c : Nat) (w : World) (hm : m ≤ 281474976710656) :
    Calls Try.prog 15 #[deedV k id n A m c] w (RetBl (deedMay k id n m) w) := by
  go_enter Try.func15, Try.ntmps15
  go_wp2_with fail
  all_goals
    go_ret
    refine RetBl.mk ?_ ((Bl.refl w).alloc _)
    try simp only [beq_iff_eq, beq_eq_false_iff_ne, bne_iff_ne, bne_eq_false_iff_eq, ne_eq] at *
    rw [Bool.eq_iff_iff]
    simp only [deedMay, decide_eq_true_eq]
    try simp
    try omega
theorem ref_deedMay (k id n : Int) (A : Option Addr) (m c : Nat) (w : World) (hm : m ≤ 281474976710656) :
    Calls Try.prog 16 #[deedV k id n A m c] w (RetBl (deedMay k id n m) w) := by
  go_enter Try.func16, Try.ntmps16
  go_wp2_with fail
  all_goals
    go_ret
    refine RetBl.mk ?_ ((Bl.refl w).alloc _)
    try simp only [beq_iff_eq, beq_eq_false_iff_ne, bne_iff_ne, bne_eq_false_iff_eq, ne_eq, Bool.not_eq_false', Bool.not_eq_true'] at *
    rw [Bool.eq_iff_iff]
    simp only [deedMay, decide_eq_true_eq]
    try simp
    try omega
theorem deed_Changes (k id n : Int) (A : Option Addr) (m c : Nat) (w : World) (hm : m ≤ 281474976710656) :
    Calls Try.prog 17 #[deedV k id n A m c] w (RetBl (deedChanges k id n m) w) := by
  by_cases hk : k = 1 ∨ k = 2 ∨ k = 7 ∨ k = 9
  · have HC := Lib.hid (show deedMay k id n m = deedChanges k id n m by unfold deedChanges; rw [decide_eq_true hk, Bool.and_true])
    rcases hk with rfl | rfl | rfl | rfl
    all_goals
      go_enter Try.func17, Try.ntmps17
      go_wp2_with (first | (go_at_call 15; go_must (refine (deed_May _ id n A m c _ hm).mono ?_); rintro e w1 ⟨rfl, hbl⟩))
      go_ret
      exact RetBl.mk HC.out (((Bl.refl w).alloc _).trans hbl)
  · have HC := Lib.hid (show false = deedChanges k id n m by unfold deedChanges; rw [decide_eq_false hk, Bool.and_false])
    have b1 : (k == 1) = false := by rw [beq_eq_false_iff_ne]; omega
    have b2 : (k == 2) = false := by rw [beq_eq_false_iff_ne]; omega
    have b7 : (k == 7) = false := by rw [beq_eq_false_iff_ne]; omega
    have b9 : (k == 9) = false := by rw [beq_eq_false_iff_ne]; omega
    clear hk
    go_enter Try.func17, Try.ntmps17
    go_wp2_with fail
    go_ret
    exact RetBl.mk HC.out ((Bl.refl w).alloc _)
theorem ref_deedChanges (k id n : Int) (A : Option Addr) (m c : Nat) (w : World) (hm : m ≤ 281474976710656) :
    Calls Try.prog 18 #[deedV k id n A m c] w (RetBl (deedChanges k id n m) w) := by
  cases hb : deedMay k id n m
  · have HB := Lib.hid hb
    have HC := Lib.hid (show false = deedChanges k id n m by unfold deedChanges; rw [hb, Bool.false_and])
    clear hb
    go_enter Try.func18, Try.ntmps18
    go_wp2_with (first | (go_at_call 16; go_must (refine (ref_deedMay _ id n A m c _ hm).mono ?_); rintro e w1 ⟨rfl, hbl⟩; rw [HB.out]))
    go_ret
    exact RetBl.mk HC.out (((Bl.refl w).alloc _).trans hbl)
  · have HB := Lib.hid hb
    have HC := Lib.hid (show decide (k = 1 ∨ k = 2 ∨ k = 7 ∨ k = 9) = deedChanges k id n m by unfold deedChanges; rw [hb, Bool.true_and])
    clear hb
    go_enter Try.func18, Try.ntmps18
    go_wp2_with (first | (go_at_call 16; go_must (refine (ref_deedMay _ id n A m c _ hm).mono ?_); rintro e w1 ⟨rfl, hbl⟩; rw [HB.out]))
    all_goals
      go_ret
      refine RetBl.mk (Eq.trans ?_ HC.out) (((Bl.refl w).alloc _).trans hbl)
      try simp only [beq_iff_eq, beq_eq_false_iff_ne, bne_iff_ne, bne_eq_false_iff_eq, ne_eq, Bool.not_eq_false', Bool.not_eq_true'] at *
      rw [Bool.eq_iff_iff]
      simp only [decide_eq_true_eq]
      try simp
      try omega
end Go.Proofs.Ytedmamchfgkkfaa
/- The reference of layer 18 walked: Same. -/
namespace Go.Proofs.Ytedmamchfgkkfaa
open Go.RowKit
set_option maxRecDepth 100000
set_option maxHeartbeats 2000000

theorem ref_nodeSame (k k2 : Int) (A B I A2 B2 I2 : Option Addr) (xs vs xs2 vs2 : List ByteArray) (ns ns2 : List Int) (c d ci c2 d2 ci2 : Nat) (w : World) (hx : xs.length ≤ 281474976710656) (hv : vs.length ≤ 281474976710656) (hn : ns.length ≤ 281474976710656)
    (rx : Rd w A (xs.map sv)) (rv : Rd w B (vs.map sv)) (rn : Rd w I (ns.map iv)) (rx2 : Rd w A2 (xs2.map sv)) (rv2 : Rd w B2 (vs2.map sv)) (rn2 : Rd w I2 (ns2.map iv)) :
    Calls Try.prog 40 #[nodeV k A xs.length c B vs.length d I ns.length ci, nodeV k2 A2 xs2.length c2 B2 vs2.length d2 I2 ns2.length ci2] w (RetBl (decide (k = k2 ∧ xs = xs2 ∧ vs = vs2 ∧ ns = ns2)) w) := by
  have RX := Lib.hid rx
  have RV := Lib.hid rv
  have RN := Lib.hid rn
  have RX2 := Lib.hid rx2
  have RV2 := Lib.hid rv2
  have RN2 := Lib.hid rn2
  clear rx rv rn rx2 rv2 rn2
  by_cases h0 : k = k2
  case neg =>
    have b0 : (k == k2) = false := by simpa using h0
    have HC := Lib.hid (show false = decide (k = k2 ∧ xs = xs2 ∧ vs = vs2 ∧ ns = ns2) by simp [h0])
    clear h0
    go_enter Try.func40, Try.ntmps40
    go_wp2_with fail
    go_ret
    exact RetBl.mk HC.out (((Bl.refl w).alloc _).alloc _)
  have b0 : (k == k2) = true := by simpa using h0
  by_cases h1 : xs = xs2
  case neg =>
    have HC := Lib.hid (show false = decide (k = k2 ∧ xs = xs2 ∧ vs = vs2 ∧ ns = ns2) by simp [h1])
    have HQ := Lib.hid (decide_eq_false h1)
    clear h0 h1
    go_enter Try.func40, Try.ntmps40
    go_wp2_with fail
    refine (texts_calls A A2 c c2 xs xs2 _ hx (RX.out.bl (((Bl.refl w).alloc _).alloc _)) (RX2.out.bl (((Bl.refl w).alloc _).alloc _))).mono ?_
    rintro e w1 ⟨rfl, n1, rfl⟩
    rw [HQ.out]
    go_wp2_with fail
    go_ret
    exact RetBl.mk HC.out ((((Bl.refl w).alloc _).alloc _).drewN n1)
  have HQ := Lib.hid (decide_eq_true h1)
  by_cases h2 : vs = vs2
  case neg =>
    have HC := Lib.hid (show false = decide (k = k2 ∧ xs = xs2 ∧ vs = vs2 ∧ ns = ns2) by simp [h2])
    have HQ2 := Lib.hid (decide_eq_false h2)
    clear h0 h1 h2
    go_enter Try.func40, Try.ntmps40
    go_wp2_with fail
    refine (texts_calls A A2 c c2 xs xs2 _ hx (RX.out.bl (((Bl.refl w).alloc _).alloc _)) (RX2.out.bl (((Bl.refl w).alloc _).alloc _))).mono ?_
    rintro e w1 ⟨rfl, n1, rfl⟩
    rw [HQ.out]
    go_wp2_with fail
    refine (texts_calls B B2 d d2 vs vs2 _ hv (RV.out.bl ((((Bl.refl w).alloc _).alloc _).drewN n1)) (RV2.out.bl ((((Bl.refl w).alloc _).alloc _).drewN n1))).mono ?_
    rintro e w2 ⟨rfl, n2, rfl⟩
    rw [HQ2.out]
    go_wp2_with fail
    go_ret
    exact RetBl.mk HC.out ((((Bl.refl w).alloc _).alloc _).drewN (n1 + n2))
  have HQ2 := Lib.hid (decide_eq_true h2)
  have HC := Lib.hid (show decide (ns = ns2) = decide (k = k2 ∧ xs = xs2 ∧ vs = vs2 ∧ ns = ns2) by simp [h0, h1, h2])
  clear h0 h1 h2
  go_enter Try.func40, Try.ntmps40
  go_wp2_with fail
  refine (texts_calls A A2 c c2 xs xs2 _ hx (RX.out.bl (((Bl.refl w).alloc _).alloc _)) (RX2.out.bl (((Bl.refl w).alloc _).alloc _))).mono ?_
  rintro e w1 ⟨rfl, n1, rfl⟩
  rw [HQ.out]
  go_wp2_with fail
  refine (texts_calls B B2 d d2 vs vs2 _ hv (RV.out.bl ((((Bl.refl w).alloc _).alloc _).drewN n1)) (RV2.out.bl ((((Bl.refl w).alloc _).alloc _).drewN n1))).mono ?_
  rintro e w2 ⟨rfl, n2, rfl⟩
  rw [HQ2.out]
  go_wp2_with fail
  refine (ints_calls I I2 ci ci2 ns ns2 _ hn (RN.out.bl ((((Bl.refl w).alloc _).alloc _).drewN (n1 + n2))) (RN2.out.bl ((((Bl.refl w).alloc _).alloc _).drewN (n1 + n2)))).mono ?_
  rintro e w3 ⟨rfl, n3, rfl⟩
  go_wp2_with fail
  go_ret
  exact RetBl.mk HC.out ((((Bl.refl w).alloc _).alloc _).drewN (n1 + n2 + n3))
end Go.Proofs.Ytedmamchfgkkfaa
/- Layer 18 (node): which nodes are right, as a plain function. No program in sight. -/
namespace Go.Proofs.Ytedmamchfgkkfaa
open Go.RowKit

/-- Is the key at a place one, and behind the one ahead of it? -/
def keyOK (keys : List ByteArray) (j : Nat) : Bool :=
  match keys[j]? with
  | none => true
  | some x => decide (1 ≤ x.size ∧ x.size ≤ 40) && (j == 0 || match keys[j - 1]? with | some y => sLt y x | none => true)
def keysOK (keys : List ByteArray) : Bool := (List.range keys.length).all (keyOK keys)
def valsOK (vals : List ByteArray) : Bool := vals.all (fun v => decide (v.size ≤ 40))
def kidsOK (kids : List Int) : Bool := kids.all (fun k => decide (2 ≤ k ∧ k < 65536))
def nodeRight (k : Int) (keys vals : List ByteArray) (kids : List Int) (leaf inner : Nat) : Bool :=
  keysOK keys && (decide (k = 1) && valsOK vals && decide (keys.length ≤ leaf ∧ vals.length = keys.length ∧ kids.length = 0) || decide (k = 2) && kidsOK kids && decide (1 ≤ keys.length ∧ keys.length ≤ inner ∧ kids.length = keys.length + 1 ∧ vals.length = 0))
theorem keysOK_bad {keys : List ByteArray} {j : Nat} (hj : j < keys.length) (h : keyOK keys j = false) : keysOK keys = false := by
  unfold keysOK
  rw [List.all_eq_false]
  exact ⟨j, List.mem_range.2 hj, by simp [h]⟩
theorem keysOK_good {keys : List ByteArray} (h : ∀ j, j < keys.length → keyOK keys j = true) : keysOK keys = true := by
  unfold keysOK
  rw [List.all_eq_true]
  exact fun j hj => h j (List.mem_range.1 hj)
/-- The ways in which a key may be right, or not. -/
theorem keyOK_cases {keys : List ByteArray} {j : Nat} {x : ByteArray} (hx : keys[j]? = some x) :
    (keyOK keys j = false ∧ x.size < 1) ∨ (keyOK keys j = false ∧ 40 < x.size) ∨ (∃ y, 0 < j ∧ keys[j - 1]? = some y ∧ keyOK keys j = false ∧ 1 ≤ x.size ∧ x.size ≤ 40 ∧ sLt y x = false) ∨
    (j = 0 ∧ keyOK keys j = true ∧ 1 ≤ x.size ∧ x.size ≤ 40) ∨ ∃ y, 0 < j ∧ keys[j - 1]? = some y ∧ keyOK keys j = true ∧ 1 ≤ x.size ∧ x.size ≤ 40 ∧ sLt y x = true := by
  by_cases h1 : x.size < 1
  · exact .inl ⟨by unfold keyOK; rw [hx]; simp; omega, h1⟩
  by_cases h2 : 40 < x.size
  · exact .inr (.inl ⟨by unfold keyOK; rw [hx]; simp; omega, h2⟩)
  have hd : decide (1 ≤ x.size ∧ x.size ≤ 40) = true := by simp; omega
  by_cases h0 : j = 0
  · exact .inr (.inr (.inr (.inl ⟨h0, by unfold keyOK; rw [hx]; simp only [hd, h0, beq_self_eq_true, Bool.true_or, Bool.and_self], by omega, by omega⟩)))
  · have hj : j < keys.length := (List.getElem?_eq_some_iff.1 hx).1
    obtain ⟨y, hy⟩ := get_some keys (j - 1) (by omega)
    have hz : (j == 0) = false := by simpa using h0
    have hk : keyOK keys j = sLt y x := by unfold keyOK; rw [hx, hy]; simp only [hd, hz, Bool.false_or, Bool.true_and]
    cases h3 : sLt y x
    · exact .inr (.inr (.inl ⟨y, by omega, hy, by rw [hk, h3], by omega, by omega, h3⟩))
    · exact .inr (.inr (.inr (.inr ⟨y, by omega, hy, by rw [hk, h3], by omega, by omega, h3⟩)))
end Go.Proofs.Ytedmamchfgkkfaa
/- Layer 18 (node) walked: which nodes are right. -/
set_option linter.unusedVariables false
set_option linter.unusedSimpArgs false
namespace Go.Proofs.Ytedmamchfgkkfaa
open Go.RowKit
set_option maxRecDepth 100000
set_option maxHeartbeats 2000000

theorem node_right (k : Int) (A B I : Option Addr) (keys vals : List ByteArray) (kids : List Int) (c d ci : Nat) (leaf inner : Nat) (w : World) (hk : keys.length ≤ 281474976710656) (hv : vals.length ≤ 281474976710656) (hn : kids.length ≤ 281474976710656) (hl : leaf ≤ 1000) (hi : inner ≤ 1000)
    (rk : Rd w A (keys.map sv)) (rv : Rd w B (vals.map sv)) (rn : Rd w I (kids.map iv)) :
    Calls Try.prog 78 #[nodeV k A keys.length c B vals.length d I kids.length ci, .int .i64 leaf, .int .i64 inner] w (RetBl (nodeRight k keys vals kids leaf inner) w) := by
  have RK := Lib.hid rk
  have RV := Lib.hid rv
  have RN := Lib.hid rn
  have HO := Lib.hid (Ob.new w #[.int .u8 k, .slice A keys.length c, .slice B vals.length d, .slice I kids.length ci] 52)
  have HW := Lib.hid ((Bl.refl w).alloc (.cells #[.int .u8 k, .slice A keys.length c, .slice B vals.length d, .slice I kids.length ci] 52))
  clear rk rv rn
  go_enter Try.func78, Try.ntmps78
  go_wp2_with fail
  generalize w.alloc (.cells #[.int .u8 k, .slice A keys.length c, .slice B vals.length d, .slice I kids.length ci] 52) = u at HO HW ⊢
  obtain ⟨o0, o1, o2, o3, _⟩ := Ob.all4 HO.out
  go_loopw [7, 8, 16] (fun _ _ i wr => ∃ j : Nat, j ≤ keys.length ∧ i = .int .i64 j ∧ Hid (∀ q, q < j → keyOK keys q = true) ∧ wr = u) (fun _ _ i _ => keys.length - (intOf i).toNat)
  case atStart => exact ⟨0, by omega, rfl, fun q hq => by omega, rfl⟩
  case round =>
    obtain ⟨j, hj, rfl, HQ, hwr⟩ := hrel
    have hwr2 := hwr.symm
    clear hwr
    subst hwr2
    by_cases hlt : j < keys.length
    · obtain ⟨x, hx⟩ := get_some keys j hlt
      obtain ⟨b, o, rfl, hc⟩ := (RK.out.bl HW.out).get hx
      simp only [sv] at hc
      rcases keyOK_cases hx with ⟨hf, h1⟩ | ⟨hf, h1⟩ | ⟨y, h0, hy, hf, h1, h2, h3⟩ | ⟨rfl, hf, h1, h2⟩ | ⟨y, h0, hy, hf, h1, h2, h3⟩
      · have HF := Lib.hid (keysOK_bad hlt hf)
        clear hf hx
        go_wp2_with fail
        go_ret
        refine RetBl.mk ?_ HW.out
        unfold nodeRight; rw [HF.out]; rfl
      · have HF := Lib.hid (keysOK_bad hlt hf)
        clear hf hx
        go_wp2_with fail
        go_ret
        refine RetBl.mk ?_ HW.out
        unfold nodeRight; rw [HF.out]; rfl
      · have HF := Lib.hid (keysOK_bad hlt hf)
        obtain ⟨b', o', e', hc'⟩ := (RK.out.bl HW.out).get hy
        cases e'
        simp only [sv] at hc'
        have hjw : ((j : Int) - 1) = ((j - 1 : Nat) : Int) := by omega
        have hcmp : Op.bytesLess y.toList x.toList = false := h3
        clear hf hx hy h3
        go_wp2_with fail
        go_ret
        refine RetBl.mk ?_ HW.out
        unfold nodeRight; rw [HF.out]; rfl
      · have HF := Lib.hid hf
        clear hf hx
        rw [Nat.add_zero] at hc
        go_wp2_with fail
        go_roundw
        case rel => exact ⟨0 + 1, by omega, by go_num, fun q hq => by obtain rfl : q = 0 := by omega
                                                                      exact HF.out, trivial⟩
        case measure => simp [intOf]; omega
      · have HF := Lib.hid hf
        obtain ⟨b', o', e', hc'⟩ := (RK.out.bl HW.out).get hy
        cases e'
        simp only [sv] at hc'
        have hjw : ((j : Int) - 1) = ((j - 1 : Nat) : Int) := by omega
        have hcmp : Op.bytesLess y.toList x.toList = true := h3
        clear hf hx hy h3
        go_wp2_with fail
        go_roundw
        case rel =>
          refine ⟨j + 1, by omega, by go_num, fun q hq => ?_, trivial⟩
          rcases Nat.lt_or_ge q j with h | h
          · exact HQ.out q h
          · obtain rfl : q = j := by omega
            exact HF.out
        case measure => simp [intOf]; omega
    · obtain rfl : j = keys.length := by omega
      have HF := Lib.hid (keysOK_good HQ.out)
      clear HQ
      by_cases h1 : k = 1
      · subst h1
        go_wp2_with fail
        go_loopw [10, 51] (fun _ i wr => ∃ j : Nat, j ≤ vals.length ∧ i = .int .i64 j ∧ Hid (∀ v ∈ vals.take j, v.size ≤ 40) ∧ wr = u) (fun _ i _ => vals.length - (intOf i).toNat)
        case atStart => exact ⟨0, by omega, rfl, fun v hv => by simp at hv, rfl⟩
        case round =>
          obtain ⟨j, hj, rfl, HQ, hwr⟩ := hrel
          have hwr2 := hwr.symm
          clear hwr
          subst hwr2
          by_cases hlt : j < vals.length
          · obtain ⟨x, hx⟩ := get_some vals j hlt
            obtain ⟨b, o, rfl, hc⟩ := (RV.out.bl HW.out).get hx
            simp only [sv] at hc
            by_cases h40 : x.size ≤ 40
            · have HT := Lib.hid (show vals.take (j + 1) = vals.take j ++ [x] by rw [List.take_add_one, hx]; rfl)
              clear hx
              go_wp2_with fail
              go_roundw
              case rel =>
                refine ⟨j + 1, by omega, by go_num, fun v hv => ?_, trivial⟩
                rw [HT.out] at hv
                rcases List.mem_append.1 hv with hv | hv
                · exact HQ.out v hv
                · simp at hv; subst hv; exact h40
              case measure => simp [intOf]; omega
            · have HB := Lib.hid (show valsOK vals = false by unfold valsOK; rw [List.all_eq_false]; exact ⟨x, List.mem_of_getElem? hx, by simpa using h40⟩)
              clear hx
              go_wp2_with fail
              go_ret
              refine RetBl.mk ?_ HW.out
              unfold nodeRight; rw [HB.out]; simp
          · obtain rfl : j = vals.length := by omega
            have HV := Lib.hid (show valsOK vals = true by
              unfold valsOK
              rw [List.all_eq_true]
              intro v hv
              have h := HQ.out
              rw [List.take_length] at h
              simpa using h v hv)
            have HN := Lib.hid (show decide (keys.length ≤ leaf ∧ vals.length = keys.length ∧ kids.length = 0) = nodeRight 1 keys vals kids leaf inner by unfold nodeRight; rw [HF.out, HV.out]; simp)
            clear HQ
            go_wp2_with fail
            all_goals
              go_ret
              refine RetBl.mk (Eq.trans ?_ HN.out) HW.out
              try simp only [beq_iff_eq, beq_eq_false_iff_ne, bne_iff_ne, bne_eq_false_iff_eq, ne_eq, Bool.not_eq_false', Bool.not_eq_true'] at *
              rw [Bool.eq_iff_iff]
              simp only [decide_eq_true_eq, beq_iff_eq, Bool.false_eq_true, reduceCtorEq, false_iff, true_iff]
              first | omega | (simp; done) | (simp; omega) | (simp [*]; done)
      · by_cases h2 : k = 2
        · subst h2
          clear h1
          go_wp2_with fail
          go_loopw [12, 84] (fun _ i wr => ∃ j : Nat, j ≤ kids.length ∧ i = .int .i64 j ∧ Hid (∀ v ∈ kids.take j, 2 ≤ v ∧ v < 65536) ∧ wr = u) (fun _ i _ => kids.length - (intOf i).toNat)
          case atStart => exact ⟨0, by omega, rfl, fun v hv => by simp at hv, rfl⟩
          case round =>
            obtain ⟨j, hj, rfl, HQ, hwr⟩ := hrel
            have hwr2 := hwr.symm
            clear hwr
            subst hwr2
            by_cases hlt : j < kids.length
            · obtain ⟨x, hx⟩ := get_some kids j hlt
              obtain ⟨b, o, rfl, hc⟩ := (RN.out.bl HW.out).get hx
              simp only [iv] at hc
              by_cases hr : 2 ≤ x ∧ x < 65536
              · have HT := Lib.hid (show kids.take (j + 1) = kids.take j ++ [x] by rw [List.take_add_one, hx]; rfl)
                clear hx
                obtain ⟨hr1, hr2⟩ := hr
                go_wp2_with fail
                go_roundw
                case rel =>
                  refine ⟨j + 1, by omega, by go_num, fun v hv => ?_, trivial⟩
                  rw [HT.out] at hv
                  rcases List.mem_append.1 hv with hv | hv
                  · exact HQ.out v hv
                  · simp at hv; subst hv; exact ⟨hr1, hr2⟩
                case measure => simp [intOf]; omega
              · have HB := Lib.hid (show nodeRight 2 keys vals kids leaf inner = false by
                  have : kidsOK kids = false := by unfold kidsOK; rw [List.all_eq_false]; exact ⟨x, List.mem_of_getElem? hx, by simpa using hr⟩
                  unfold nodeRight; rw [this]; simp)
                clear hx
                rcases (by omega : x < 2 ∨ (2 ≤ x ∧ 65536 ≤ x)) with h | ⟨h, h'⟩
                all_goals
                  clear hr
                  go_wp2_with fail
                  go_ret
                  exact RetBl.mk HB.out.symm HW.out
            · obtain rfl : j = kids.length := by omega
              have HV := Lib.hid (show kidsOK kids = true by
                unfold kidsOK
                rw [List.all_eq_true]
                intro v hv
                have h := HQ.out
                rw [List.take_length] at h
                simpa using h v hv)
              have HN := Lib.hid (show decide (1 ≤ keys.length ∧ keys.length ≤ inner ∧ kids.length = keys.length + 1 ∧ vals.length = 0) = nodeRight 2 keys vals kids leaf inner by unfold nodeRight; rw [HF.out, HV.out]; simp)
              clear HQ
              go_wp2_with fail
              all_goals
                go_ret
                refine RetBl.mk (Eq.trans ?_ HN.out) HW.out
                try simp only [beq_iff_eq, beq_eq_false_iff_ne, bne_iff_ne, bne_eq_false_iff_eq, ne_eq, Bool.not_eq_false', Bool.not_eq_true'] at *
                rw [Bool.eq_iff_iff]
                simp only [decide_eq_true_eq, beq_iff_eq, Bool.false_eq_true, reduceCtorEq, false_iff, true_iff]
                first | omega | (simp; done) | (simp; omega) | (simp [*]; done)
        · have b1 : (k == 1) = false := by simpa using h1
          have b2 : (k == 2) = false := by simpa using h2
          have HN := Lib.hid (show false = nodeRight k keys vals kids leaf inner by unfold nodeRight; simp [h1, h2])
          clear h1 h2
          go_wp2_with fail
          go_ret
          exact RetBl.mk HN.out HW.out
end Go.Proofs.Ytedmamchfgkkfaa
/- The reference of layer 18 walked: which nodes are right; May, Wide of both. -/
set_option linter.unusedVariables false
set_option linter.unusedSimpArgs false
namespace Go.Proofs.Ytedmamchfgkkfaa
open Go.RowKit
set_option maxRecDepth 100000
set_option maxHeartbeats 4000000

theorem nodeRight_bad {k : Int} {keys vals : List ByteArray} {kids : List Int} {leaf inner : Nat} (h : keysOK keys = false ∨ valsOK vals = false ∨ kidsOK kids = false) : nodeRight k keys vals kids leaf inner = false := by
  unfold nodeRight
  rcases h with h | h | h
  · rw [h]; rfl
  · cases vals with
    | nil => cases h
    | cons v l => rw [h]; simp
  · cases kids with
    | nil => cases h
    | cons v l => rw [h]; simp
theorem ref_nodeRight (k : Int) (A B I : Option Addr) (keys vals : List ByteArray) (kids : List Int) (c d ci : Nat) (leaf inner : Nat) (w : World) (hk : keys.length ≤ 281474976710656) (hv : vals.length ≤ 281474976710656) (hn : kids.length ≤ 281474976710656) (hl : leaf ≤ 1000) (hi : inner ≤ 1000)
    (rk : Rd w A (keys.map sv)) (rv : Rd w B (vals.map sv)) (rn : Rd w I (kids.map iv)) :
    Calls Try.prog 79 #[nodeV k A keys.length c B vals.length d I kids.length ci, .int .i64 leaf, .int .i64 inner] w (RetBl (nodeRight k keys vals kids leaf inner) w) := by
  have RK := Lib.hid rk
  have RV := Lib.hid rv
  have RN := Lib.hid rn
  have HO := Lib.hid (Ob.new w #[.int .u8 k, .slice A keys.length c, .slice B vals.length d, .slice I kids.length ci] 52)
  have HW := Lib.hid ((Bl.refl w).alloc (.cells #[.int .u8 k, .slice A keys.length c, .slice B vals.length d, .slice I kids.length ci] 52))
  clear rk rv rn
  go_enter Try.func79, Try.ntmps79
  go_wp2_with fail
  generalize w.alloc (.cells #[.int .u8 k, .slice A keys.length c, .slice B vals.length d, .slice I kids.length ci] 52) = u at HO HW ⊢
  obtain ⟨z0, z1, z2, z3, _⟩ := Ob.all4 HO.out
  go_loopw [7] (fun i wr => ∃ j : Nat, j ≤ keys.length ∧ i = .int .i64 j ∧ Hid (∀ q, q < j → keyOK keys q = true) ∧ Hid (Dr u wr)) (fun i _ => keys.length - (intOf i).toNat)
  case atStart => exact ⟨0, by omega, rfl, fun q hq => by omega, Dr.refl u⟩
  case round =>
    obtain ⟨j, hj, rfl, HQ, HD⟩ := hrel
    obtain ⟨v, rfl⟩ : ∃ v : World, v = wr := ⟨_, rfl⟩
    have HWn := Lib.hid (HW.out.trans (HD.out.below _))
    obtain ⟨o0, o1, o2, o3, _⟩ := Ob.all4 (HO.out.bl (HD.out.below _))
    clear z0 z1 z2 z3
    by_cases hlt : j < keys.length
    · obtain ⟨x, hx⟩ := get_some keys j hlt
      obtain ⟨b, o, rfl, hc⟩ := (RK.out.bl HWn.out).get hx
      simp only [sv] at hc
      rcases keyOK_cases hx with ⟨hf, h1⟩ | ⟨hf, h1⟩ | ⟨y, h0, hy, hf, h1, h2, h3⟩ | ⟨rfl, hf, h1, h2⟩ | ⟨y, h0, hy, hf, h1, h2, h3⟩
      · have HF := Lib.hid (nodeRight_bad (k := k) (vals := vals) (kids := kids) (leaf := leaf) (inner := inner) (.inl (keysOK_bad hlt hf)))
        clear hf hx
        go_wp2_with fail
        have i1 : (x.size : Int) < 1 := by omega
        go_quiet (fail)
        go_wp2_with fail
        go_ret
        exact RetBl.mk HF.out.symm (HWn.out.drewN _)
      · have HF := Lib.hid (nodeRight_bad (k := k) (vals := vals) (kids := kids) (leaf := leaf) (inner := inner) (.inl (keysOK_bad hlt hf)))
        clear hf hx
        go_wp2_with fail
        have i1 : ¬ (x.size : Int) < 1 := by omega
        have i2 : (x.size : Int) > 40 := by omega
        go_quiet (fail)
        go_wp2_with fail
        go_ret
        exact RetBl.mk HF.out.symm (HWn.out.drewN _)
      · have HF := Lib.hid (nodeRight_bad (k := k) (vals := vals) (kids := kids) (leaf := leaf) (inner := inner) (.inl (keysOK_bad hlt hf)))
        obtain ⟨b', o', e', hc'⟩ := (RK.out.bl HWn.out).get hy
        cases e'
        simp only [sv] at hc'
        obtain ⟨m, rfl⟩ : ∃ m, j = m + 1 := ⟨j - 1, by omega⟩
        rw [Nat.add_sub_cancel] at hc'
        have hcmp : Op.bytesLess y.toList x.toList = false := h3
        clear hf hx hy h3
        go_wp2_with fail
        have i1 : ¬ (x.size : Int) < 1 := by omega
        have i2 : ¬ (x.size : Int) > 40 := by omega
        have i3 : ((m : Int) + 1) > 0 := by omega
        go_quiet (fail)
        go_wp2_with fail
        go_ret
        exact RetBl.mk HF.out.symm (HWn.out.drewN _)
      · have HF := Lib.hid hf
        clear hf hx
        rw [Nat.add_zero] at hc
        go_wp2_with fail
        have i1 : ¬ (x.size : Int) < 1 := by omega
        have i2 : ¬ (x.size : Int) > 40 := by omega
        go_quiet (fail)
        go_wp2_with fail
        go_roundw
        case rel => exact ⟨0 + 1, by omega, by go_num, fun q hq => by { have e : q = 0 := (by omega); subst e; exact HF.out }, HD.out.drewN _⟩
        case measure => simp [intOf]; omega
      · have HF := Lib.hid hf
        obtain ⟨b', o', e', hc'⟩ := (RK.out.bl HWn.out).get hy
        cases e'
        simp only [sv] at hc'
        obtain ⟨m, rfl⟩ : ∃ m, j = m + 1 := ⟨j - 1, by omega⟩
        rw [Nat.add_sub_cancel] at hc'
        have hcmp : Op.bytesLess y.toList x.toList = true := h3
        clear hf hx hy h3
        go_wp2_with fail
        have i1 : ¬ (x.size : Int) < 1 := by omega
        have i2 : ¬ (x.size : Int) > 40 := by omega
        have i3 : ((m : Int) + 1) > 0 := by omega
        go_quiet (fail)
        go_wp2_with fail
        go_roundw
        case rel =>
          refine ⟨m + 1 + 1, by omega, by go_num, fun q hq => ?_, HD.out.drewN _⟩
          rcases Nat.lt_or_ge q (m + 1) with h | h
          · exact HQ.out q h
          · obtain rfl : q = m + 1 := by omega
            exact HF.out
        case measure => simp [intOf]; omega
    · obtain rfl : j = keys.length := by omega
      have HF := Lib.hid (keysOK_good HQ.out)
      clear HQ
      go_wp2_with fail
      go_loopw [8] (fun i wr => ∃ j : Nat, j ≤ vals.length ∧ i = .int .i64 j ∧ Hid (∀ x ∈ vals.take j, x.size ≤ 40) ∧ wr = v) (fun i _ => vals.length - (intOf i).toNat)
      case atStart => exact ⟨0, by omega, rfl, fun v hv => by simp at hv, rfl⟩
      case round =>
        obtain ⟨j, hj, rfl, HQ, hwr⟩ := hrel
        have hwr2 := hwr.symm
        clear hwr
        subst hwr2
        by_cases hlt : j < vals.length
        · obtain ⟨x, hx⟩ := get_some vals j hlt
          obtain ⟨b, o, rfl, hc⟩ := (RV.out.bl HWn.out).get hx
          simp only [sv] at hc
          by_cases h40 : x.size ≤ 40
          · have HT := Lib.hid (show vals.take (j + 1) = vals.take j ++ [x] by rw [List.take_add_one, hx]; rfl)
            clear hx
            go_wp2_with fail
            go_roundw
            case rel =>
              refine ⟨j + 1, by omega, by go_num, fun v hv => ?_, trivial⟩
              rw [HT.out] at hv
              rcases List.mem_append.1 hv with hv | hv
              · exact HQ.out v hv
              · simp at hv; subst hv; exact h40
            case measure => simp [intOf]; omega
          · have HB := Lib.hid (nodeRight_bad (k := k) (keys := keys) (kids := kids) (leaf := leaf) (inner := inner) (.inr (.inl (show valsOK vals = false by unfold valsOK; rw [List.all_eq_false]; exact ⟨x, List.mem_of_getElem? hx, by simpa using h40⟩))))
            clear hx
            go_wp2_with fail
            go_ret
            exact RetBl.mk HB.out.symm HWn.out
        · obtain rfl : j = vals.length := by omega
          have HV := Lib.hid (show valsOK vals = true by
            unfold valsOK
            rw [List.all_eq_true]
            intro v hv
            have h := HQ.out
            rw [List.take_length] at h
            simpa using h v hv)
          clear HQ
          go_wp2_with fail
          go_loopw [9] (fun i wr => ∃ j : Nat, j ≤ kids.length ∧ i = .int .i64 j ∧ Hid (∀ x ∈ kids.take j, 2 ≤ x ∧ x < 65536) ∧ wr = v) (fun i _ => kids.length - (intOf i).toNat)
          case atStart => exact ⟨0, by omega, rfl, fun v hv => by simp at hv, rfl⟩
          case round =>
            obtain ⟨j, hj, rfl, HQ, hwr⟩ := hrel
            have hwr2 := hwr.symm
            clear hwr
            subst hwr2
            by_cases hlt : j < kids.length
            · obtain ⟨x, hx⟩ := get_some kids j hlt
              obtain ⟨b, o, rfl, hc⟩ := (RN.out.bl HWn.out).get hx
              simp only [iv] at hc
              by_cases hr : 2 ≤ x ∧ x < 65536
              · have HT := Lib.hid (show kids.take (j + 1) = kids.take j ++ [x] by rw [List.take_add_one, hx]; rfl)
                clear hx
                obtain ⟨hr1, hr2⟩ := hr
                go_wp2_with fail
                go_roundw
                case rel =>
                  refine ⟨j + 1, by omega, by go_num, fun v hv => ?_, trivial⟩
                  rw [HT.out] at hv
                  rcases List.mem_append.1 hv with hv | hv
                  · exact HQ.out v hv
                  · simp at hv; subst hv; exact ⟨hr1, hr2⟩
                case measure => simp [intOf]; omega
              · have HB := Lib.hid (nodeRight_bad (k := k) (keys := keys) (vals := vals) (leaf := leaf) (inner := inner) (.inr (.inr (show kidsOK kids = false by unfold kidsOK; rw [List.all_eq_false]; exact ⟨x, List.mem_of_getElem? hx, by simpa using hr⟩))))
                clear hx
                rcases (by omega : x < 2 ∨ (2 ≤ x ∧ 65535 < x)) with h | ⟨h, h'⟩
                all_goals
                  clear hr
                  go_wp2_with fail
                  go_ret
                  exact RetBl.mk HB.out.symm HWn.out
            · obtain rfl : j = kids.length := by omega
              have HN := Lib.hid (show kidsOK kids = true by
                unfold kidsOK
                rw [List.all_eq_true]
                intro v hv
                have h := HQ.out
                rw [List.take_length] at h
                simpa using h v hv)
              clear HQ
              by_cases h1 : k = 1
              · subst h1
                have HE := Lib.hid (show decide (keys.length ≤ leaf ∧ vals.length = keys.length ∧ kids.length = 0) = nodeRight 1 keys vals kids leaf inner by unfold nodeRight; rw [HF.out, HV.out]; simp)
                go_wp2_with fail
                all_goals
                  go_ret
                  refine RetBl.mk (Eq.trans ?_ HE.out) HWn.out
                  try simp only [beq_iff_eq, beq_eq_false_iff_ne, bne_iff_ne, bne_eq_false_iff_eq, ne_eq, Bool.not_eq_false', Bool.not_eq_true'] at *
                  rw [Bool.eq_iff_iff]
                  simp only [decide_eq_true_eq, beq_iff_eq, Bool.false_eq_true, reduceCtorEq, false_iff, true_iff]
                  first | omega | (simp; done) | (simp; omega) | (simp [*]; done)
              · by_cases h2 : k = 2
                · subst h2
                  have HE := Lib.hid (show decide (1 ≤ keys.length ∧ keys.length ≤ inner ∧ kids.length = keys.length + 1 ∧ vals.length = 0) = nodeRight 2 keys vals kids leaf inner by unfold nodeRight; rw [HF.out, HN.out]; simp)
                  clear h1
                  go_wp2_with fail
                  all_goals
                    go_ret
                    refine RetBl.mk (Eq.trans ?_ HE.out) HWn.out
                    try simp only [beq_iff_eq, beq_eq_false_iff_ne, bne_iff_ne, bne_eq_false_iff_eq, ne_eq, Bool.not_eq_false', Bool.not_eq_true'] at *
                    rw [Bool.eq_iff_iff]
                    simp only [decide_eq_true_eq, beq_iff_eq, Bool.false_eq_true, reduceCtorEq, false_iff, true_iff]
                    first | omega | (simp; done) | (simp; omega) | (simp [*]; done)
                · have b1 : (k == 1) = false := by simpa using h1
                  have b2 : (k == 2) = false := by simpa using h2
                  have HE := Lib.hid (show false = nodeRight k keys vals kids leaf inner by unfold nodeRight; simp [h1, h2])
                  clear h1 h2
                  go_wp2_with fail
                  go_ret
                  exact RetBl.mk HE.out HWn.out
theorem node_May (k : Int) (A B I : Option Addr) (keys vals : List ByteArray) (kids : List Int) (c d ci : Nat) (w : World) (hk : keys.length ≤ 281474976710656) (hv : vals.length ≤ 281474976710656) (hn : kids.length ≤ 281474976710656)
    (rk : Rd w A (keys.map sv)) (rv : Rd w B (vals.map sv)) (rn : Rd w I (kids.map iv)) :
    Calls Try.prog 36 #[nodeV k A keys.length c B vals.length d I kids.length ci] w (RetBl (nodeRight k keys vals kids 6 6) w) := by
  have RK := Lib.hid rk
  have RV := Lib.hid rv
  have RN := Lib.hid rn
  have HW := Lib.hid ((Bl.refl w).alloc (.cells #[.int .u8 k, .slice A keys.length c, .slice B vals.length d, .slice I kids.length ci] 52))
  clear rk rv rn
  go_enter Try.func36, Try.ntmps36
  go_wp2_with (first | (go_at_call 78; go_must (refine (node_right k A B I keys vals kids c d ci 6 6 _ hk hv hn (by decide) (by decide) (RK.out.bl HW.out) (RV.out.bl HW.out) (RN.out.bl HW.out)).mono ?_); rintro e w1 ⟨rfl, hbl⟩))
  go_ret
  exact RetBl.mk rfl (HW.out.trans hbl)
theorem node_Wide (k : Int) (A B I : Option Addr) (keys vals : List ByteArray) (kids : List Int) (c d ci : Nat) (w : World) (hk : keys.length ≤ 281474976710656) (hv : vals.length ≤ 281474976710656) (hn : kids.length ≤ 281474976710656)
    (rk : Rd w A (keys.map sv)) (rv : Rd w B (vals.map sv)) (rn : Rd w I (kids.map iv)) :
    Calls Try.prog 34 #[nodeV k A keys.length c B vals.length d I kids.length ci] w (RetBl (nodeRight k keys vals kids 12 13) w) := by
  have RK := Lib.hid rk
  have RV := Lib.hid rv
  have RN := Lib.hid rn
  have HW := Lib.hid ((Bl.refl w).alloc (.cells #[.int .u8 k, .slice A keys.length c, .slice B vals.length d, .slice I kids.length ci] 52))
  clear rk rv rn
  go_enter Try.func34, Try.ntmps34
  go_wp2_with (first | (go_at_call 78; go_must (refine (node_right k A B I keys vals kids c d ci 12 13 _ hk hv hn (by decide) (by decide) (RK.out.bl HW.out) (RV.out.bl HW.out) (RN.out.bl HW.out)).mono ?_); rintro e w1 ⟨rfl, hbl⟩))
  go_ret
  exact RetBl.mk rfl (HW.out.trans hbl)
theorem ref_nodeMay (k : Int) (A B I : Option Addr) (keys vals : List ByteArray) (kids : List Int) (c d ci : Nat) (w : World) (hk : keys.length ≤ 281474976710656) (hv : vals.length ≤ 281474976710656) (hn : kids.length ≤ 281474976710656)
    (rk : Rd w A (keys.map sv)) (rv : Rd w B (vals.map sv)) (rn : Rd w I (kids.map iv)) :
    Calls Try.prog 37 #[nodeV k A keys.length c B vals.length d I kids.length ci] w (RetBl (nodeRight k keys vals kids 6 6) w) := by
  have RK := Lib.hid rk
  have RV := Lib.hid rv
  have RN := Lib.hid rn
  have HW := Lib.hid ((Bl.refl w).alloc (.cells #[.int .u8 k, .slice A keys.length c, .slice B vals.length d, .slice I kids.length ci] 52))
  clear rk rv rn
  go_enter Try.func37, Try.ntmps37
  go_wp2_with (first | (go_at_call 79; go_must (refine (ref_nodeRight k A B I keys vals kids c d ci 6 6 _ hk hv hn (by decide) (by decide) (RK.out.bl HW.out) (RV.out.bl HW.out) (RN.out.bl HW.out)).mono ?_); rintro e w1 ⟨rfl, hbl⟩))
  go_ret
  exact RetBl.mk rfl (HW.out.trans hbl)
theorem ref_nodeWide (k : Int) (A B I : Option Addr) (keys vals : List ByteArray) (kids : List Int) (c d ci : Nat) (w : World) (hk : keys.length ≤ 281474976710656) (hv : vals.length ≤ 281474976710656) (hn : kids.length ≤ 281474976710656)
    (rk : Rd w A (keys.map sv)) (rv : Rd w B (vals.map sv)) (rn : Rd w I (kids.map iv)) :
    Calls Try.prog 35 #[nodeV k A keys.length c B vals.length d I kids.length ci] w (RetBl (nodeRight k keys vals kids 12 13) w) := by
  have RK := Lib.hid rk
  have RV := Lib.hid rv
  have RN := Lib.hid rn
  have HW := Lib.hid ((Bl.refl w).alloc (.cells #[.int .u8 k, .slice A keys.length c, .slice B vals.length d, .slice I kids.length ci] 52))
  clear rk rv rn
  go_enter Try.func35, Try.ntmps35
  go_wp2_with (first | (go_at_call 79; go_must (refine (ref_nodeRight k A B I keys vals kids c d ci 12 13 _ hk hv hn (by decide) (by decide) (RK.out.bl HW.out) (RV.out.bl HW.out) (RN.out.bl HW.out)).mono ?_); rintro e w1 ⟨rfl, hbl⟩))
  go_ret
  exact RetBl.mk rfl (HW.out.trans hbl)
end Go.Proofs.Ytedmamchfgkkfaa
/- Words that the proofs of this seat share: a text's bytes made. -/
set_option linter.unusedVariables false
set_option linter.unusedSimpArgs false
namespace Go.Proofs.Ytedmamchfgkkfaa
open Go.RowKit
/-- A text's bytes. -/
def tb (s : ByteArray) : List UInt8 := s.data.toList
theorem tb_len (s : ByteArray) : (tb s).length = s.size := by simp [tb]
theorem tb_mk (l : List UInt8) : tb ⟨l.toArray⟩ = l := rfl
theorem tb_inj {x y : ByteArray} (h : tb x = tb y) : x = y := by
  cases x; cases y
  simp only [tb] at h
  rw [Array.toList_inj.1 h]
theorem bytes_world_bl (w : World) (e : TypeId) (s : ByteArray) : Bl w (Lib.bytesWorld w e s) := by
  refine ⟨?_, ?_, ?_, by rw [Lib.bytesWorld_size]; omega, fun j hj => Lib.bytesWorld_at_old w e s j hj⟩
  all_goals simp [Lib.bytesWorld, World.freeze, World.alloc, World.drew, -World.alloc_eq, -World.drew_eq]
theorem bytes_world_rd (w : World) (e : TypeId) (s : ByteArray) : Rd (Lib.bytesWorld w e s) (some ⟨w.heap.size, 0, none⟩) ((tb s).map bv) := fun _ => by
  refine ⟨w.heap.size, 0, rfl, fun j v hv => ?_⟩
  have hj : j < s.size := by
    have := (List.getElem?_eq_some_iff.1 hv).1
    simpa [tb_len] using this
  rw [Nat.zero_add, Lib.bytesWorld_cell w e s j hj]
  have hj2 : j < s.data.toList.length := by simpa using hj
  simp only [tb, List.getElem?_map, List.getElem?_eq_getElem hj2, Option.map_some, Option.some.injEq] at hv
  rw [← hv, bv]
  congr 2
  simp only [List.getD_eq_getElem?_getD, List.getElem?_eq_getElem hj2, Option.getD_some]
section
variable {P : Program} {ops : Array Oper} {rest : List Oper} {o : Oper} {a : Act} {Q : Exit → Act → World → Prop} {w : World}
/-- []byte(s). -/
theorem strb_step (hgd : o.guard = none) (s d e : TypeId) (x : Operand) (ho : o.op = .convert s d x) {u : TypeDesc} (hs : P.underlying s = some u) (hd : P.underlying d = some (.slice e)) (he : P.underlying e = some (.int .u8)) {t : ByteArray} (hx : a.eval x = .string t)
    (h : ∀ A c w', Rd w' A ((tb t).map bv) → Bl w w' → wpList P ops Q rest (a.put o.dst (.slice A (tb t).length c)) w') : wpList P ops Q (o :: rest) a w := by
  refine wpList_plain hgd fun K hK => ?_
  have hr := Lib.run_convert_string_bytes (P := P) w s d e t hs hd he
  unfold Oper.wp
  simp only [execOp, ho, hx]
  simp [hr, Result.andThen]
  have := h (some ⟨w.heap.size, 0, none⟩) (grownCap w t.size 0 e) _ (bytes_world_rd w e t) (bytes_world_bl w e t)
  rw [tb_len] at this
  exact hK _ _ this
/-- string(b). -/
theorem conv_step (hgd : o.guard = none) (s d e : TypeId) (x : Operand) (ho : o.op = .convert s d x) (hs : P.underlying s = some (.slice e)) (he : P.underlying e = some (.int .u8)) (hd : P.underlying d = some .string)
    {A : Option Addr} {c n : Nat} {xs : List UInt8} (hx : a.eval x = .slice A n c) (hn : n = xs.length) (hr : Rd w A (xs.map bv)) (h : wpList P ops Q rest (a.put o.dst (.string ⟨xs.toArray⟩)) w) : wpList P ops Q (o :: rest) a w := by
  subst hn
  refine wpList_plain hgd fun K hK => ?_
  have hr := conv_bytes (P := P) w s e d hs he hd A c xs hr
  unfold Oper.wp
  simp only [execOp, ho, hx]
  simp [hr, Result.andThen]
  exact hK _ _ h
end
end Go.Proofs.Ytedmamchfgkkfaa
/- The reference of layer 1 walked: Get, Put. -/
namespace Go.Proofs.Ytedmamchfgkkfaa
open Go.RowKit

set_option maxRecDepth 100000 in
set_option maxHeartbeats 1000000 in
theorem ref_Get (A : Option Addr) (c : Nat) (b : List UInt8) (p : Int) (w : World) (hb : b.length ≤ 140737488351232) (hr : Rd w A (b.map bv)) :
    Calls Try.prog 65 #[.slice A b.length c, .int .i64 p] w (RetGet b p w) := by
  by_cases hout : p < 0 ∨ (b.length : Int) < p
  · have hz : lebGet b p = (0, 0, 2) := by unfold lebGet; rw [if_pos hout]
    have HZ := Lib.hid hz
    clear hz
    by_cases h0 : p < 0
    · clear hout
      have h0' : decide (p < 0) = true := decide_eq_true h0
      go_enter Try.func65, Try.ntmps65
      go_wp2_with fail
      go_ret3
      exact RetGet.mk HZ.out (Dr.refl w)
    · have h1 : (b.length : Int) < p := by omega
      clear hout
      go_enter Try.func65, Try.ntmps65
      go_wp2_with fail
      go_ret3
      exact RetGet.mk HZ.out (Dr.refl w)
  · obtain ⟨q, rfl⟩ := Int.eq_ofNat_of_zero_le (show 0 ≤ p by omega)
    have hq : q ≤ b.length := by omega
    clear hout
    go_enter Try.func65, Try.ntmps65
    go_wp2_with fail
    go_loopw [7] (fun i wr => ∃ k : Nat, k ≤ 9 ∧ q + k ≤ b.length ∧ i = .int .i64 k ∧ wr = w ∧ Hid (∀ j, j < k → 128 ≤ ((b.drop q).getD j 0).toNat)) (fun i _ => 10 - (intOf i).toNat)
    case atStart => exact ⟨0, by omega, by omega, rfl, rfl, fun j hj => by omega⟩
    case round =>
      obtain ⟨k, hk, hqk, rfl, rfl, HA⟩ := hrel
      by_cases hend : q + k = b.length
      · have HS := Lib.hid (lebGet_short hk hend HA.out)
        have he2 : ((q : Int) + (k : Int) == (b.length : Int)) = true := by rw [beq_iff_eq]; omega
        have he3 : ¬ (q + k < b.length) := by omega
        have he4 : decide ((q : Int) + (k : Int) < (b.length : Int)) = false := by rw [decide_eq_false_iff_not]; omega
        clear hend
        by_cases hk9 : k = 9
        · have hk9' : decide ((k : Int) < 9) = false := by rw [decide_eq_false_iff_not]; omega
          have HK := Lib.hid hk9
          clear hk9
          go_wp2_with fail
          go_ret3
          exact RetGet.mk HS.out (Dr.refl _)
        · have hk9' : decide ((k : Int) < 9) = true := by rw [decide_eq_true_eq]; omega
          go_wp2_with fail
          go_ret3
          exact RetGet.mk HS.out (Dr.refl _)
      · have he2 : ((q : Int) + (k : Int) == (b.length : Int)) = false := by rw [beq_eq_false_iff_ne]; omega
        have he4 : decide ((q : Int) + (k : Int) < (b.length : Int)) = true := by rw [decide_eq_true_eq]; omega
        obtain ⟨x, hx⟩ := get_some b (q + k) (by omega)
        obtain ⟨B, o, rfl, hc⟩ := hr.get hx
        have hd : (b.drop q).getD k 0 = x := by simp [List.getD_eq_getElem?_getD, List.getElem?_drop, hx]
        have HD := Lib.hid hd
        have HX := Lib.hid hx
        clear hd hx
        simp only [bv] at hc
        by_cases hgo : k < 9 ∧ 128 ≤ x.toNat
        · obtain ⟨hk9, h128⟩ := hgo
          have hk9' : decide ((k : Int) < 9) = true := by rw [decide_eq_true_eq]; omega
          go_wp2_with fail
          go_roundw
          case rel => exact ⟨k + 1, by omega, by omega, by go_num, trivial, lead_succ_of _ k k HA.out rfl (by rw [HD.out]; exact h128)⟩
          case measure => simp [intOf]; omega
        · have HO := Lib.hid (lebGet_out hk HX.out HA.out (x := x))
          have hlen : k < (b.drop q).length := by rw [List.length_drop]; omega
          by_cases hx8 : x.toNat < 128
          · replace HO := Lib.hid (HO.out hx8)
            have hx8' : decide (128 ≤ (x.toNat : Int)) = false := by rw [decide_eq_false_iff_not]; omega
            have HVB : Hid (¬ ((k = 9 ∧ 1 < x.toNat) ∨ (0 < k ∧ x.toNat = 0)) → vval ((b.drop q).take (k + 1)) < 2 ^ 64) := fun hn => by
              rcases lebGet_cases b q with ⟨e, h, he⟩ | ⟨q', k', v, hq', h, _, _, hv, _⟩
              · rw [HO.out, if_neg hn] at h; injection h with h1 h2; injection h2 with h2 h3; omega
              · rw [HO.out, if_neg hn] at h; injection h with h1 h2; omega
            clear hgo
            by_cases hk9 : k = 9
            · have b9 : ((k : Int) == 9) = true := by rw [beq_iff_eq]; omega
              have d9 : decide ((k : Int) < 9) = false := by rw [decide_eq_false_iff_not]; omega
              have k0 : 0 < k := by omega
              have HK9 := Lib.hid hk9
              clear hk9
              by_cases hx1 : 1 < x.toNat
              · go_wp2_with fail
                go_ret3
                exact RetGet.mk (HO.out.trans (if_pos (.inl ⟨HK9.out, hx1⟩))) (Dr.refl _)
              · by_cases hx0 : x.toNat = 0
                · have x0 : ((x.toNat : Int) == 0) = true := by rw [beq_iff_eq]; omega
                  have HX0 := Lib.hid hx0
                  clear hx0
                  go_wp2_with fail
                  go_ret3
                  exact RetGet.mk (HO.out.trans (if_pos (.inr ⟨k0, HX0.out⟩))) (Dr.refl _)
                · have x0 : ((x.toNat : Int) == 0) = false := by rw [beq_eq_false_iff_ne]; omega
                  have hok := Lib.hid (show ¬ ((k = 9 ∧ 1 < x.toNat) ∨ (0 < k ∧ x.toNat = 0)) by omega)
                  replace HVB := Lib.hid (HVB.out hok.out)
                  have hfit := Lib.hid (fun j (hj : j ≤ k) => vval_bound (b.drop q) k j hj hlen HVB.out)
                  have hstep := Lib.hid (fun j (hj : j ≤ k) => vval_drop_take (b.drop q) k j hj hlen)
                  go_wp2_with fail
                  go_loopw [9, 10] (fun v i wi => ∃ j V : Nat, j ≤ k + 1 ∧ i = .int .i64 ((j : Int) - 1) ∧ v = .int .u64 V ∧ Hid (V = vval (((b.drop q).drop j).take (k + 1 - j))) ∧ wi = wr) (fun _ i _ => (intOf i + 1).toNat)
                  case atStart => exact ⟨k + 1, 0, Nat.le_refl _, by go_num, rfl, by show _ = _; rw [Nat.sub_self]; simp [vval], rfl⟩
                  case round =>
                    obtain ⟨j, V, hj, rfl, rfl, HV, rfl⟩ := hrel
                    by_cases hj0 : j = 0
                    · subst hj0
                      have hv := HV.out
                      rw [List.drop_zero, Nat.sub_zero] at hv
                      have HV2 := Lib.hid hv
                      clear hv
                      go_wp2_with fail
                      go_ret3
                      refine RetGet.mk (HO.out.trans (if_neg hok.out) |>.trans ?_) (Dr.refl _)
                      rw [HV2.out]
                    · obtain ⟨i, rfl⟩ : ∃ i, j = i + 1 := ⟨j - 1, by omega⟩
                      obtain ⟨y, hy⟩ := get_some b (q + i) (by omega)
                      obtain ⟨B2, o2, eB, hc2⟩ := hr.get hy
                      cases eB
                      have hdy : (b.drop q).getD i 0 = y := by simp [List.getD_eq_getElem?_getD, List.getElem?_drop, hy]
                      have hV2 : vval (((b.drop q).drop i).take (k + 1 - i)) = y.toNat % 128 + 128 * V := by
                        rw [hstep.out i (by omega), hdy, HV.out]; rw [show k + 1 - (i + 1) = k - i by omega]
                      have hb64 := hfit.out i (by omega)
                      rw [hV2] at hb64
                      have HV2 := Lib.hid hV2
                      have w1 : IntKind.u64.wrap (128 * (V : Int)) = 128 * (V : Int) := IntWalk.u64_in _ (by omega)
                      have w2 : IntKind.u64.wrap (128 * (V : Int) + ((y.toNat : Int) % 128)) = 128 * (V : Int) + ((y.toNat : Int) % 128) := IntWalk.u64_in _ (by omega)
                      clear hy hdy hV2 hb64 HV
                      simp only [bv] at hc2
                      go_wp2_with fail
                      go_roundw
                      case rel => exact ⟨i, y.toNat % 128 + 128 * V, by omega, by go_num, by congr 1 <;> omega, HV2.out.symm, trivial⟩
                      case measure => (simp [intOf])
            · have b9 : ((k : Int) == 9) = false := by rw [beq_eq_false_iff_ne]; omega
              have d9 : decide ((k : Int) < 9) = true := by rw [decide_eq_true_eq]; omega
              by_cases hk0 : 0 < k
              · by_cases hx0 : x.toNat = 0
                · have x0 : ((x.toNat : Int) == 0) = true := by rw [beq_iff_eq]; omega
                  have HX0 := Lib.hid hx0
                  clear hx0
                  go_wp2_with fail
                  go_ret3
                  exact RetGet.mk (HO.out.trans (if_pos (.inr ⟨hk0, HX0.out⟩))) (Dr.refl _)
                · have x0 : ((x.toNat : Int) == 0) = false := by rw [beq_eq_false_iff_ne]; omega
                  have hok := Lib.hid (show ¬ ((k = 9 ∧ 1 < x.toNat) ∨ (0 < k ∧ x.toNat = 0)) by omega)
                  replace HVB := Lib.hid (HVB.out hok.out)
                  have hfit := Lib.hid (fun j (hj : j ≤ k) => vval_bound (b.drop q) k j hj hlen HVB.out)
                  have hstep := Lib.hid (fun j (hj : j ≤ k) => vval_drop_take (b.drop q) k j hj hlen)
                  go_wp2_with fail
                  go_loopw [9, 10] (fun v i wi => ∃ j V : Nat, j ≤ k + 1 ∧ i = .int .i64 ((j : Int) - 1) ∧ v = .int .u64 V ∧ Hid (V = vval (((b.drop q).drop j).take (k + 1 - j))) ∧ wi = wr) (fun _ i _ => (intOf i + 1).toNat)
                  case atStart => exact ⟨k + 1, 0, Nat.le_refl _, by go_num, rfl, by show _ = _; rw [Nat.sub_self]; simp [vval], rfl⟩
                  case round =>
                    obtain ⟨j, V, hj, rfl, rfl, HV, rfl⟩ := hrel
                    by_cases hj0 : j = 0
                    · subst hj0
                      have hv := HV.out
                      rw [List.drop_zero, Nat.sub_zero] at hv
                      have HV2 := Lib.hid hv
                      clear hv
                      go_wp2_with fail
                      go_ret3
                      refine RetGet.mk (HO.out.trans (if_neg hok.out) |>.trans ?_) (Dr.refl _)
                      rw [HV2.out]
                    · obtain ⟨i, rfl⟩ : ∃ i, j = i + 1 := ⟨j - 1, by omega⟩
                      obtain ⟨y, hy⟩ := get_some b (q + i) (by omega)
                      obtain ⟨B2, o2, eB, hc2⟩ := hr.get hy
                      cases eB
                      have hdy : (b.drop q).getD i 0 = y := by simp [List.getD_eq_getElem?_getD, List.getElem?_drop, hy]
                      have hV2 : vval (((b.drop q).drop i).take (k + 1 - i)) = y.toNat % 128 + 128 * V := by
                        rw [hstep.out i (by omega), hdy, HV.out]; rw [show k + 1 - (i + 1) = k - i by omega]
                      have hb64 := hfit.out i (by omega)
                      rw [hV2] at hb64
                      have HV2 := Lib.hid hV2
                      have w1 : IntKind.u64.wrap (128 * (V : Int)) = 128 * (V : Int) := IntWalk.u64_in _ (by omega)
                      have w2 : IntKind.u64.wrap (128 * (V : Int) + ((y.toNat : Int) % 128)) = 128 * (V : Int) + ((y.toNat : Int) % 128) := IntWalk.u64_in _ (by omega)
                      clear hy hdy hV2 hb64 HV
                      simp only [bv] at hc2
                      go_wp2_with fail
                      go_roundw
                      case rel => exact ⟨i, y.toNat % 128 + 128 * V, by omega, by go_num, by congr 1 <;> omega, HV2.out.symm, trivial⟩
                      case measure => (simp [intOf])
              · have hok := Lib.hid (show ¬ ((k = 9 ∧ 1 < x.toNat) ∨ (0 < k ∧ x.toNat = 0)) by omega)
                replace HVB := Lib.hid (HVB.out hok.out)
                have hfit := Lib.hid (fun j (hj : j ≤ k) => vval_bound (b.drop q) k j hj hlen HVB.out)
                have hstep := Lib.hid (fun j (hj : j ≤ k) => vval_drop_take (b.drop q) k j hj hlen)
                go_wp2_with fail
                go_loopw [9, 10] (fun v i wi => ∃ j V : Nat, j ≤ k + 1 ∧ i = .int .i64 ((j : Int) - 1) ∧ v = .int .u64 V ∧ Hid (V = vval (((b.drop q).drop j).take (k + 1 - j))) ∧ wi = wr) (fun _ i _ => (intOf i + 1).toNat)
                case atStart => exact ⟨k + 1, 0, Nat.le_refl _, by go_num, rfl, by show _ = _; rw [Nat.sub_self]; simp [vval], rfl⟩
                case round =>
                  obtain ⟨j, V, hj, rfl, rfl, HV, rfl⟩ := hrel
                  by_cases hj0 : j = 0
                  · subst hj0
                    have hv := HV.out
                    rw [List.drop_zero, Nat.sub_zero] at hv
                    have HV2 := Lib.hid hv
                    clear hv
                    go_wp2_with fail
                    go_ret3
                    refine RetGet.mk (HO.out.trans (if_neg hok.out) |>.trans ?_) (Dr.refl _)
                    rw [HV2.out]
                  · obtain ⟨i, rfl⟩ : ∃ i, j = i + 1 := ⟨j - 1, by omega⟩
                    obtain ⟨y, hy⟩ := get_some b (q + i) (by omega)
                    obtain ⟨B2, o2, eB, hc2⟩ := hr.get hy
                    cases eB
                    have hdy : (b.drop q).getD i 0 = y := by simp [List.getD_eq_getElem?_getD, List.getElem?_drop, hy]
                    have hV2 : vval (((b.drop q).drop i).take (k + 1 - i)) = y.toNat % 128 + 128 * V := by
                      rw [hstep.out i (by omega), hdy, HV.out]; rw [show k + 1 - (i + 1) = k - i by omega]
                    have hb64 := hfit.out i (by omega)
                    rw [hV2] at hb64
                    have HV2 := Lib.hid hV2
                    have w1 : IntKind.u64.wrap (128 * (V : Int)) = 128 * (V : Int) := IntWalk.u64_in _ (by omega)
                    have w2 : IntKind.u64.wrap (128 * (V : Int) + ((y.toNat : Int) % 128)) = 128 * (V : Int) + ((y.toNat : Int) % 128) := IntWalk.u64_in _ (by omega)
                    clear hy hdy hV2 hb64 HV
                    simp only [bv] at hc2
                    go_wp2_with fail
                    go_roundw
                    case rel => exact ⟨i, y.toNat % 128 + 128 * V, by omega, by go_num, by congr 1 <;> omega, HV2.out.symm, trivial⟩
                    case measure => (simp [intOf])
          · have hk9 : k = 9 := by omega
            have HT : Hid (lebGet b q = (0, 0, 5)) := by
              have hn : lead 9 (b.drop q) = 9 := lead_eq 9 9 _ (Nat.le_refl _) (by rw [List.length_drop]; omega) (by rw [← hk9]; exact HA.out) (.inl rfl)
              show _ = _
              have hdx := HD.out
              rw [hk9] at hdx
              unfold lebGet
              rw [if_neg (by omega)]
              simp only [Int.toNat_natCast]
              rw [hn, if_neg (by rw [List.length_drop]; omega), if_pos (.inl ⟨rfl, by rw [hdx]; omega⟩)]
            have b9 : ((k : Int) == 9) = true := by rw [beq_iff_eq]; omega
            have d9 : decide ((k : Int) < 9) = false := by rw [decide_eq_false_iff_not]; omega
            have hx1 : 1 < x.toNat := by omega
            clear hk9 hgo
            go_wp2_with fail
            go_ret3
            exact RetGet.mk HT.out (Dr.refl _)
end Go.Proofs.Ytedmamchfgkkfaa
/- The reference of layer 1 walked: Put, PutRow, PutList, Count, GetRow, GetList. -/
namespace Go.Proofs.Ytedmamchfgkkfaa
open Go.RowKit
set_option maxRecDepth 100000
set_option maxHeartbeats 1000000

theorem app_byte (w : World) (x : Int) (y : UInt8) (h : x = (y.toNat : Int)) : App (w.alloc (.cells #[.int .u8 x] 5)) w.heap.size 5 1 (.slice (some ⟨w.heap.size, 0, none⟩) 1 1) 1 ([y].map bv) := by
  subst h
  exact App.made w #[bv y] 1 (Nat.le_refl _) (by decide) rfl
theorem ref_Put_nat (k : Nat) : ∀ (n : Nat) (w : World), n < 128 ^ (k + 1) → n < 2 ^ 64 → Calls Try.prog 60 #[.int .u64 (n : Int)] w (RetBytes (lebPut n) w) := by
  have small : ∀ (n : Nat) (w : World), n < 128 → Calls Try.prog 60 #[.int .u64 (n : Int)] w (RetBytes (lebPut n) w) := by
    intro n w h1
    have HP := Lib.hid (lebPut_small h1)
    have HW := Lib.hid (wrap8 n h1)
    go_enter Try.func60, Try.ntmps60
    go_wp2_with fail
    go_ret
    refine RetBytes.mk ?_ ((Bl.refl w).alloc _)
    rw [HP.out]
    exact app_byte w _ _ (by rw [u8_toNat n (by omega)])
  induction k with
  | zero => intro n w h _; exact small n w (by simpa using h)
  | succ k ih =>
    intro n w h h64
    by_cases h1 : n < 128
    · exact small n w h1
    · have HI := Lib.hid (fun w => ih (n / 128) w (by rw [Nat.div_lt_iff_lt_mul (by decide)]; rwa [Nat.pow_succ] at h) (by omega))
      have HP := Lib.hid (lebPut_great h1)
      have HT := Lib.hid (lebPut_ten (n := n / 128) (by omega))
      have hw : IntKind.u64.wrap ((n : Int) / 128) = ((n / 128 : Nat) : Int) := by rw [IntWalk.u64_in _ (by omega)]; omega
      clear ih h h64 small
      go_enter Try.func60, Try.ntmps60
      go_wp2_with (first
        | (go_at_call 60; go_must (refine (HI.out _).mono ?_); rintro e w1 ⟨v, rfl, hown, hbl⟩; obtain ⟨A1, c1, rfl, hc1⟩ := hown.slice; have hown0 := (app_byte w ((n : Int) % 128 + 128) (n % 128 + 128).toUInt8 (by rw [u8_toNat _ (by omega)]; omega)).bl hbl; have hten := HT.out.1)
        | (at_builtin; go_must (refine append_row rfl _ _ 24 5 (.int .u8 0) 1 1 rfl Try.underlying24 Try.infoU8 rfl (by decide) w.heap.size hown0 (by rfl) (by rfl) hown.rd.1 (by simp) (bv_one _) (by omega) (by omega) (by have := hbl.size; simp at this; omega) ?_); intro v1 w2 hown2 hgr hat))
      go_ret
      refine RetBytes.mk ?_ ((((Bl.refl w).alloc _).trans hbl).grown hgr (fun q hq => hown0.ge q hq))
      rw [HP.out]
      simpa [Nat.add_comm] using hown2
theorem ref_Put (x : Int) (h0 : 0 ≤ x) (h1 : x < 18446744073709551616) (w : World) : Calls Try.prog 60 #[.int .u64 x] w (RetBytes (lebPut x.toNat) w) := by
  obtain ⟨n, rfl⟩ := Int.eq_ofNat_of_zero_le h0
  exact ref_Put_nat 9 n w (by omega) (by omega)

theorem ref_PutRow (A : Option Addr) (c : Nat) (b : List UInt8) (w : World) (hb : b.length + 10 ≤ 140737488355328) (hr : Rd w A (b.map bv)) :
    Calls Try.prog 61 #[.slice A b.length c] w (RetBytes (lebRowPut b) w) := by
  have HR := Lib.hid hr
  clear hr
  go_enter Try.func61, Try.ntmps61
  go_wp2_with (first
    | (go_at_call 60; go_must (refine (ref_Put _ (by omega) (by omega) w).mono ?_); rintro e w' ⟨v, rfl, hown, hbl⟩; have hten := (lebPut_ten (n := b.length) (by omega)).1; rw [Int.toNat_natCast] at hown; have hsz := hbl.size)
    | (at_builtin; go_must (refine append_row rfl _ _ 24 5 (.int .u8 0) 1 1 rfl Try.underlying24 Try.infoU8 rfl (by decide) w.heap.size hown (by rfl) (by rfl) (HR.out.bl hbl) (by simp) (bv_one b) (by omega) (by omega) hsz ?_); intro v1 w1 hown2 hgr hat))
  go_ret
  refine RetBytes.mk ?_ (hbl.grown hgr (fun q hq => hown.ge q hq))
  simpa [lebRowPut] using hown2

theorem ref_PutList (A : Option Addr) (c : Nat) (l : List Nat) (w : World) (hl : 10 * l.length + 10 ≤ 140737488355328) (h64 : Hid (∀ n ∈ l, n < 2 ^ 64)) (hr : Rd w A (l.map wv)) :
    Calls Try.prog 71 #[.slice A l.length c] w (RetBytes (lebListPut l) w) := by
  have HR := Lib.hid hr
  clear hr
  go_enter Try.func71, Try.ntmps71
  go_wp2_with (first
    | (go_at_call 60; go_must (refine (ref_Put _ (by omega) (by omega) w).mono ?_); rintro e w' ⟨v, rfl, hown, hbl⟩; have hten := Lib.hid (lebPut_ten (n := l.length) (by omega)).1; rw [Int.toNat_natCast] at hown))
  go_loopw [3, 4] (fun out i wr => ∃ k : Nat, k ≤ l.length ∧ i = .int .i64 k ∧ App wr w.heap.size 5 1 out (lebPut l.length ++ lebAll (l.take k)).length ((lebPut l.length ++ lebAll (l.take k)).map bv) ∧ Hid (Bl w wr)) (fun _ i _ => l.length - (intOf i).toNat)
  case atStart => exact ⟨0, Nat.zero_le _, rfl, by simpa [lebAll] using hown, hbl⟩
  case round =>
    obtain ⟨k, hk, rfl, hown1, HB⟩ := hrel
    by_cases hlt : k < l.length
    · obtain ⟨n0, hn0⟩ := get_some l k hlt
      obtain ⟨b, o, rfl, hc⟩ := (HR.out.bl HB.out).get hn0
      have hle := Lib.hid (h64.out n0 (List.mem_of_getElem? hn0))
      have hall := Lib.hid (show lebAll (l.take (k + 1)) = lebAll (l.take k) ++ lebPut n0 by rw [List.take_add_one, hn0]; simp [lebAll_snoc])
      have hlen := Lib.hid (show (lebPut l.length).length + (lebAll (l.take k)).length + (lebPut n0).length ≤ 10 * l.length + 10 by
        have h1 := lebAll_ten (ns := l.take (k + 1)) (fun n hn => h64.out n (List.mem_of_mem_take hn))
        rw [hall.out, List.length_append, List.length_take] at h1
        have := hten.out
        omega)
      clear hn0
      simp only [wv] at hc
      go_wp2_with (first
        | (go_at_call 60; go_must (refine (ref_Put _ (by omega) (by have := hle.out; omega) _).mono ?_); rintro e w1 ⟨v, rfl, hown2, hbl2⟩; rw [Int.toNat_natCast] at hown2; obtain ⟨A1, c1, rfl, hc1⟩ := hown2.slice; have hown3 := hown1.bl hbl2; have hsz := (HB.out.trans hbl2).size)
        | (at_builtin; go_must (refine append_row rfl _ _ 24 5 (.int .u8 0) 1 1 rfl Try.underlying24 Try.infoU8 rfl (by decide) w.heap.size hown3 (by rfl) (by rfl) hown2.rd.1 (by simp) (bv_one _) (by have := hlen.out; simp only [List.length_append]; omega) (by have := hlen.out; simp only [List.length_append]; omega) hsz ?_); intro v1 w2 hown4 hgr hat))
      go_roundw
      case rel =>
        refine ⟨k + 1, by omega, by go_num, ?_, (HB.out.trans hbl2).grown hgr (fun q hq => hown3.ge q hq)⟩
        rw [hall.out, ← List.append_assoc]
        simpa [Nat.add_assoc] using hown4
      case measure => simp [intOf]; omega
    · obtain rfl : k = l.length := by omega
      rw [List.take_length] at hown1
      go_wp2_with fail
      go_ret
      exact RetBytes.mk hown1 HB.out

theorem ref_Get_at (A : Option Addr) (c : Nat) (b : List UInt8) (p n m e : Int) (w : World) (hb : b.length ≤ 140737488351232) (hr : Rd w A (b.map bv)) (h : lebGet b p = (n, m, e)) :
    Calls Try.prog 65 #[.slice A b.length c, .int .i64 p] w fun e' w' => e' = .returned (.tuple #[.int .u64 n, .int .i64 m, .int .i64 e]) ∧ Dr w w' := by
  refine (ref_Get A c b p w hb hr).mono ?_
  rintro e' w' ⟨h1, h2⟩
  rw [h] at h1
  exact ⟨h1, h2⟩

theorem ref_Count (A : Option Addr) (c : Nat) (b : List UInt8) (p most : Int) (w : World) (hb : b.length ≤ 140737488351232) (hm : -9223372036854775808 ≤ most ∧ most ≤ 9223372036854775807) (hr : Rd w A (b.map bv)) :
    Calls Try.prog 84 #[.slice A b.length c, .int .i64 p, .int .i64 most] w (Ret3 (lebCount b p most) w) := by
  have HM := Lib.hid hm
  have HR := Lib.hid hr
  clear hm hr
  rcases lebGet_or b p with ⟨e, h, he, _⟩ | ⟨v, m, h, hv, hmm, _⟩
  · have hz : lebCount b p most = (0, 0, e) := by unfold lebCount; rw [h]; simp [he]
    have HZ := Lib.hid hz
    have H := Lib.hid h
    have he1 : (e != 0) = true := by simpa using he
    clear h hz he
    go_enter Try.func84, Try.ntmps84
    go_wp2_with (go_at_call 65; go_must (refine (ref_Get_at A c b p _ _ _ w hb HR.out H.out).mono ?_); rintro e w' ⟨rfl, n, rfl⟩)
    go_ret3
    exact Ret3.mk HZ.out ⟨n, rfl⟩
  · have H := Lib.hid h
    have hc : lebCount b p most = if most < 0 ∨ most < (v : Int) then (0, 0, 3) else ((v : Int), (m : Int), 0) := by unfold lebCount; rw [h]; simp
    have HC := Lib.hid hc
    have HV := Lib.hid hv
    clear h hc hv
    by_cases h0 : most < 0
    · go_enter Try.func84, Try.ntmps84
      go_wp2_with (go_at_call 65; go_must (refine (ref_Get_at A c b p _ _ _ w hb HR.out H.out).mono ?_); rintro e w' ⟨rfl, n, rfl⟩)
      go_ret3
      exact Ret3.mk (HC.out.trans (if_pos (.inl h0))) ⟨n, rfl⟩
    · have hwm : IntKind.u64.wrap most = most := IntWalk.u64_in _ (by have := HM.out; omega)
      have h0' : 0 ≤ most := by omega
      by_cases h1 : most < (v : Int)
      · go_enter Try.func84, Try.ntmps84
        go_wp2_with (go_at_call 65; go_must (refine (ref_Get_at A c b p _ _ _ w hb HR.out H.out).mono ?_); rintro e w' ⟨rfl, n, rfl⟩)
        go_ret3
        exact Ret3.mk (HC.out.trans (if_pos (.inr h1))) ⟨n, rfl⟩
      · have hwv : wrap64 (v : Int) = v := by unfold wrap64; have := HM.out; omega
        go_enter Try.func84, Try.ntmps84
        go_wp2_with (go_at_call 65; go_must (refine (ref_Get_at A c b p _ _ _ w hb HR.out H.out).mono ?_); rintro e w' ⟨rfl, n, rfl⟩)
        go_ret3
        exact Ret3.mk (HC.out.trans ((if_neg (show ¬ (most < 0 ∨ most < (v : Int)) by omega)).trans (by rw [hwv]))) ⟨n, rfl⟩
theorem ref_Count_at (A : Option Addr) (c : Nat) (b : List UInt8) (p most n m e : Int) (w : World) (hb : b.length ≤ 140737488351232) (hm : -9223372036854775808 ≤ most ∧ most ≤ 9223372036854775807) (hr : Rd w A (b.map bv)) (h : lebCount b p most = (n, m, e)) :
    Calls Try.prog 84 #[.slice A b.length c, .int .i64 p, .int .i64 most] w fun e' w' => e' = .returned (.tuple #[.int .i64 n, .int .i64 m, .int .i64 e]) ∧ Dr w w' := by
  refine (ref_Count A c b p most w hb hm hr).mono ?_
  rintro e' w' ⟨h1, h2⟩
  rw [h] at h1
  exact ⟨h1, h2⟩

theorem ref_GetRow (A : Option Addr) (c : Nat) (b : List UInt8) (p most : Int) (w : World) (hb : b.length ≤ 140737488351232) (hc : b.length ≤ c) (hm : -9223372036854775808 ≤ most ∧ most ≤ 9223372036854775807) (hr : Rd w A (b.map bv)) :
    Calls Try.prog 66 #[.slice A b.length c, .int .i64 p, .int .i64 most] w (RetRow (lebRow b p most) w) := by
  have HM := Lib.hid hm
  have HR := Lib.hid hr
  clear hm hr
  rcases lebCount_or b p most with ⟨e, h, he, _⟩ | ⟨v, m, h, hgg, hv, hmost, hmm, _⟩
  · have hz : lebRow b p most = ([], 0, e) := by unfold lebRow; rw [h]; simp [he]
    have HZ := Lib.hid hz
    have H := Lib.hid h
    have he1 : (e != 0) = true := by simpa using he
    clear h hz he
    go_enter Try.func66, Try.ntmps66
    go_wp2_with (go_at_call 84; go_must (refine (ref_Count_at A c b p most _ _ _ w hb HM.out HR.out H.out).mono ?_); rintro e w' ⟨rfl, n, rfl⟩)
    go_ret3
    exact RetRow.mk HZ.out (App.nil _ _ _ _) ((Bl.refl w).drewN n)
  · have H := Lib.hid h
    have hz : lebRow b p most = if (b.length : Int) - m < v then ([], 0, 4) else ((b.drop m).take v, (m : Int) + v, 0) := by unfold lebRow; rw [h]; simp
    have HZ := Lib.hid hz
    clear h hz hv hgg
    by_cases hlong : (b.length : Int) - m < v
    · go_enter Try.func66, Try.ntmps66
      go_wp2_with (go_at_call 84; go_must (refine (ref_Count_at A c b p most _ _ _ w hb HM.out HR.out H.out).mono ?_); rintro e w' ⟨rfl, n, rfl⟩)
      go_ret3
      exact RetRow.mk (HZ.out.trans (if_pos hlong)) (App.nil _ _ _ _) ((Bl.refl w).drewN n)
    · have hvl : m + v ≤ b.length := by omega
      go_enter Try.func66, Try.ntmps66
      go_wp2_with (first
        | (go_at_call 84; go_must (refine (ref_Count_at A c b p most _ _ _ w hb HM.out HR.out H.out).mono ?_); rintro e w' ⟨rfl, n, rfl⟩)
        | (refine cut_step rfl 24 5 1 _ _ _ _ (by rfl) Try.underlying24 Try.sizeU8 (by rfl) m (m + v) c (bounds_lh b.length c _ _ (m : Int) ((m : Int) + v) (by omega) (by omega) (by omega)) ?_; intro A1 hA1)
        | (at_builtin; go_must (refine append_row rfl _ _ 24 5 (.int .u8 0) 1 1 rfl Try.underlying24 Try.infoU8 rfl (by decide) w.heap.size (App.nil _ _ _ _) (by rfl) (by rfl) (news := ((b.drop m).take v).map bv) ?hr2 (by simp; omega) (bv_one _) (by omega) (by omega) (by simp) ?hk); (case hr2 => subst hA1; simpa using (HR.out.dr ⟨n, rfl⟩).cut 1 m c v (by omega)); intro v1 w2 hown2 hgr hat))
      go_ret3
      refine RetRow.mk (HZ.out.trans (if_neg (show ¬ ((b.length : Int) - m < v) by omega))) ?_ (((Bl.refl w).drewN n).grown hgr (fun q hq => by simp [Value.ownBlock] at hq))
      have hl : ((b.drop m).take v).length = v := by rw [List.length_take, List.length_drop]; omega
      rw [hl]
      simpa [show m + v - m = v by omega] using hown2

theorem ref_GetList (A : Option Addr) (c : Nat) (b : List UInt8) (p most : Int) (w : World) (hb : b.length ≤ 140737488351232) (hm : -9223372036854775808 ≤ most ∧ most ≤ 1000000000000) (hr : Rd w A (b.map bv)) :
    Calls Try.prog 76 #[.slice A b.length c, .int .i64 p, .int .i64 most] w (RetNums (lebList b p most) w) := by
  have HM := Lib.hid hm
  have HR := Lib.hid hr
  clear hm hr
  rcases lebCount_or b p most with ⟨e, h, he, _⟩ | ⟨v, m, h, hgg, hv, hmost, hmm, _⟩
  · have hz : lebList b p most = ([], 0, e) := by unfold lebList; rw [h]; simp [he]
    have HZ := Lib.hid hz
    have H := Lib.hid h
    have he1 : (e != 0) = true := by simpa using he
    clear h hz he
    go_enter Try.func76, Try.ntmps76
    go_wp2_with (go_at_call 84; go_must (refine (ref_Count_at A c b p most _ _ _ w hb (by have := HM.out; omega) HR.out H.out).mono ?_); rintro e w' ⟨rfl, n, rfl⟩)
    go_ret3
    exact RetNums.mk HZ.out (App.nil _ _ _ _) ((Bl.refl w).drewN n)
  · have H := Lib.hid h
    have hz : lebList b p most = lebNums b v m [] := by unfold lebList; rw [h]; simp
    have HZ := Lib.hid hz
    have hvb : v ≤ 1000000000000 := by have := HM.out; omega
    clear h hz hv hgg hmost
    go_enter Try.func76, Try.ntmps76
    go_wp2_with (first | (go_at_call 84; go_must (refine (ref_Count_at A c b p most _ _ _ w hb (by have := HM.out; omega) HR.out H.out).mono ?_); rintro e w' ⟨rfl, n, rfl⟩))
    go_loopw [10, 12, 13] (fun pl out i wr => ∃ (k : Nat) (acc : List Nat) (q : Nat), k ≤ v ∧ i = .int .i64 k ∧ pl = .int .i64 q ∧ Hid (acc.length = k) ∧ q ≤ b.length ∧ App wr w.heap.size 23 1 out k (acc.map wv) ∧ Hid (lebNums b (v - k) q acc = lebList b p most) ∧ Hid (Bl w wr)) (fun _ _ i _ => v - (intOf i).toNat)
    case atStart => exact ⟨0, [], m, Nat.zero_le _, rfl, rfl, rfl, hmm, App.nil _ _ _ _, HZ.out.symm, (Bl.refl w).drewN n⟩
    case round =>
      obtain ⟨k, acc, q, hk, rfl, rfl, HA, hq, hown, HN, HB⟩ := hrel
      by_cases hlt : k < v
      · rcases lebGet_or b q with ⟨e, h, he, _⟩ | ⟨x, m2, h, hx, hm2, _⟩
        · have hz : lebList b p most = ([], 0, e) := by rw [← HN.out, show v - k = (v - k - 1) + 1 by omega, lebNums, h]; simp [he]
          have HZ2 := Lib.hid hz
          have H2 := Lib.hid h
          have he1 : (e != 0) = true := by simpa using he
          clear h hz he
          go_wp2_with (first | (go_at_call 65; go_must (refine (ref_Get_at A c b _ _ _ _ _ hb (HR.out.bl HB.out) H2.out).mono ?_); rintro e w' ⟨rfl, n2, rfl⟩))
          go_ret3
          exact RetNums.mk HZ2.out (App.nil _ _ _ _) (HB.out.drewN n2)
        · have hz : lebNums b (v - (k + 1)) m2 (acc ++ [x]) = lebList b p most := by rw [← HN.out, show v - k = (v - (k + 1)) + 1 by omega, lebNums, h]; simp
          have HZ2 := Lib.hid hz
          have H2 := Lib.hid h
          have hsz := HB.out.size
          clear h hz hx
          go_wp2_with (first
            | (go_at_call 65; go_must (refine (ref_Get_at A c b _ _ _ _ _ hb (HR.out.bl HB.out) H2.out).mono ?_); rintro e w' ⟨rfl, n2, rfl⟩)
            | (at_builtin; go_must (refine append_one rfl _ _ 39 23 (.int .u64 0) 1 8 rfl Try.underlying39 Try.infoU64 rfl (by decide) w.heap.size (hown.bl ((Bl.refl _).drewN n2)) (by rfl) (by rfl) (by rfl) (by intro u hu; simp at hu; subst hu; rfl) (by omega) (by omega) (by simpa using hsz) ?_); intro v1 w1 hown2 hgr hat))
          go_roundw
          case rel =>
            refine ⟨k + 1, acc ++ [x], m2, by omega, by go_num, rfl, by show _ = _; rw [List.length_append, HA.out]; rfl, hm2, ?_, HZ2.out, (HB.out.drewN n2).grown hgr (fun q hq => hown.ge q hq)⟩
            simpa [wv] using hown2
          case measure => simp [intOf]; omega
      · obtain rfl : k = v := by omega
        have hfin : lebList b p most = (acc, (q : Int), 0) := by rw [← HN.out, Nat.sub_self, lebNums]
        have HF := Lib.hid hfin
        clear hfin
        go_wp2_with fail
        go_ret3
        exact RetNums.mk HF.out (by rw [HA.out]; exact hown) HB.out
end Go.Proofs.Ytedmamchfgkkfaa
