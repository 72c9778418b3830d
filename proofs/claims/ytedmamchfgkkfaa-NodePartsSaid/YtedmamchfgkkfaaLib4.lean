/- Words that the proofs of this seat share: variables of several cells, and worlds in which only some old blocks have changed. -/
import Derived.Test.YtedmamchfgkkfaaLib2
import Derived.Great.BuildSlice
namespace Go.Proofs.Ytedmamchfgkkfaa
open Go.RowKit

/-- Of the old blocks only those on the list may have changed. -/
structure Ch (L : List Nat) (w w' : World) : Prop where
  os : w'.os = w.os
  tape : w'.tape = w.tape
  output : w'.output = w.output
  size : w.heap.size ≤ w'.heap.size
  block : ∀ k, k < w.heap.size → k ∉ L → w'.heap[k]? = w.heap[k]?
theorem Ch.refl (L : List Nat) (w : World) : Ch L w w := ⟨rfl, rfl, rfl, Nat.le_refl _, fun _ _ _ => rfl⟩
theorem Bl.ch {w w' : World} (h : Bl w w') (L : List Nat) : Ch L w w' := ⟨h.os, h.tape, h.output, h.size, fun k hk _ => h.block k hk⟩
theorem Ch.bl {L : List Nat} {w w' : World} (h : Ch L w w') (hL : ∀ k ∈ L, w.heap.size ≤ k) : Bl w w' := ⟨h.os, h.tape, h.output, h.size, fun k hk => h.block k hk (fun hm => by have := hL k hm; omega)⟩
theorem Ch.trans {L M : List Nat} {a b c : World} (h : Ch L a b) (k : Ch M b c) (hM : ∀ m ∈ M, m ∈ L ∨ a.heap.size ≤ m) : Ch L a c :=
  ⟨k.os.trans h.os, k.tape.trans h.tape, k.output.trans h.output, Nat.le_trans h.size k.size, fun i hi hl => (k.block i (Nat.lt_of_lt_of_le hi h.size) (fun hm => by rcases hM i hm with h2 | h2; exact hl h2; omega)).trans (h.block i hi hl)⟩
theorem Ch.same {L : List Nat} {a b c : World} (h : Ch L a b) (k : Ch L b c) : Ch L a c := h.trans k (fun _ hm => .inl hm)
theorem Ch.thenBl {L : List Nat} {a b c : World} (h : Ch L a b) (k : Bl b c) : Ch L a c := h.trans (k.ch []) (fun _ hm => by cases hm)
theorem Ch.mono {L M : List Nat} {a b : World} (h : Ch L a b) (hM : ∀ m ∈ L, m ∈ M) : Ch M a b := ⟨h.os, h.tape, h.output, h.size, fun k hk hl => h.block k hk (fun hm => hl (hM k hm))⟩
theorem Ch.grown {row : Option Nat} {w w' : World} (h : w.grownBy w' row) : Ch row.toList w w' := ⟨h.os, h.tape, h.output, h.size, fun k hk hl => h.block k hk (fun e => hl (by rw [← e]; simp))⟩
theorem Ch.toGrown {g : Nat} {w w' : World} (h : Ch [g] w w') : w.grownBy w' (some g) := ⟨h.os, h.tape, h.output, h.size, fun k hk hl => h.block k hk (fun e => hl (by simp at e; rw [e]))⟩
theorem Ch.setCell (w : World) (a : Addr) (v : Value) : Ch [a.block] w (w.setCell a v) := ⟨rfl, rfl, rfl, by simp [World.setCell], fun k _ hk => heap_setCell_other w a k v (fun e => hk (by simp [e]))⟩
theorem Ch.put (w : World) (g i : Nat) (v : Value) : Ch [g] w (w.setCell ⟨g, i, none⟩ v) := Ch.setCell w ⟨g, i, none⟩ v
theorem Ch.setRow (w : World) (g : Nat) (cs : Array Value) : Ch [g] w (w.setRow g cs) := ⟨rfl, rfl, rfl, by simp, fun k _ hk => setRow_other w g k cs (fun e => hk (by simp [e]))⟩
theorem Ch.drew {L : List Nat} {w w' : World} (h : Ch L w w') : Ch L w w'.drew := ⟨h.os, h.tape, h.output, h.size, h.block⟩
theorem Ch.drewN {L : List Nat} {w w' : World} (h : Ch L w w') (n : Nat) : Ch L w (w'.drewN n) := ⟨h.os, h.tape, h.output, h.size, h.block⟩
theorem Ch.alloc {L : List Nat} {w w' : World} (h : Ch L w w') (o : Obj) : Ch L w (w'.alloc o) := h.thenBl ((Bl.refl _).alloc o)

/-- A variable's block. -/
def Ob (w : World) (g : Nat) (T : TypeId) (cs : Array Value) : Prop := w.heap[g]? = some (.cells cs T (0, 0))
theorem Ob.lt {w : World} {g : Nat} {T : TypeId} {cs : Array Value} (h : Ob w g T cs) : g < w.heap.size := heap_lt h
theorem Ob.bl {w w' : World} {g : Nat} {T : TypeId} {cs : Array Value} (h : Ob w g T cs) (k : Bl w w') : Ob w' g T cs := k.heap h
theorem Ob.ch {L : List Nat} {w w' : World} {g : Nat} {T : TypeId} {cs : Array Value} (h : Ob w g T cs) (k : Ch L w w') (hg : g ∉ L) : Ob w' g T cs := (k.block g h.lt hg).trans h
theorem Ob.new (w : World) (cs : Array Value) (T : TypeId) : Ob (w.alloc (.cells cs T)) w.heap.size T cs := heap_alloc_new w _
theorem Ob.cell {w : World} {g : Nat} {T : TypeId} {cs : Array Value} (h : Ob w g T cs) (i : Nat) {v : Value} (hv : cs[i]? = some v) : w.cell? ⟨g, i, none⟩ = some v := (cell_of_row w g i cs T (0, 0) h).trans hv
theorem Ob.free {w : World} {g : Nat} {T : TypeId} {cs : Array Value} (h : Ob w g T cs) (i : Nat) : w.frozen? ⟨g, i, none⟩ = false := frozen_of_row w g i cs T h
theorem Ob.set {w : World} {g : Nat} {T : TypeId} {cs : Array Value} (h : Ob w g T cs) (i : Nat) (v : Value) : Ob (w.setCell ⟨g, i, none⟩ v) g T (cs.setIfInBounds i v) := heap_setCell_same w g i cs T v h
theorem Ob.set4 {w : World} {g : Nat} {T : TypeId} {a0 a1 a2 a3 : Value} (h : Ob w g T #[a0, a1, a2, a3]) (b0 b1 b2 b3 : Value) :
    Ob ((((w.setCell ⟨g, 0, none⟩ b0).setCell ⟨g, 1, none⟩ b1).setCell ⟨g, 2, none⟩ b2).setCell ⟨g, 3, none⟩ b3) g T #[b0, b1, b2, b3] ∧ Ch [g] w ((((w.setCell ⟨g, 0, none⟩ b0).setCell ⟨g, 1, none⟩ b1).setCell ⟨g, 2, none⟩ b2).setCell ⟨g, 3, none⟩ b3) := by
  refine ⟨?_, (((Ch.put w g 0 b0).same (Ch.put _ g 1 b1)).same (Ch.put _ g 2 b2)).same (Ch.put _ g 3 b3)⟩
  have := (((h.set 0 b0).set 1 b1).set 2 b2).set 3 b3
  simpa using this
theorem Ob.all4 {w : World} {g : Nat} {T : TypeId} {a0 a1 a2 a3 : Value} (h : Ob w g T #[a0, a1, a2, a3]) :
    w.cell? ⟨g, 0, none⟩ = some a0 ∧ w.cell? ⟨g, 1, none⟩ = some a1 ∧ w.cell? ⟨g, 2, none⟩ = some a2 ∧ w.cell? ⟨g, 3, none⟩ = some a3 ∧ w.frozen? ⟨g, 0, none⟩ = false ∧ w.frozen? ⟨g, 1, none⟩ = false ∧ w.frozen? ⟨g, 2, none⟩ = false ∧ w.frozen? ⟨g, 3, none⟩ = false :=
  ⟨h.cell 0 rfl, h.cell 1 rfl, h.cell 2 rfl, h.cell 3 rfl, h.free 0, h.free 1, h.free 2, h.free 3⟩
theorem Ob.row {w : World} {g : Nat} {T : TypeId} {old cs : Array Value} (h : Ob w g T old) : Ob (w.setRow g cs) g T cs := setRow_heap w g old cs T _ h
theorem Ob.app {w : World} {g : Nat} {T : TypeId} {cs : Array Value} {base n : Nat} {e : TypeId} {size : Nat} {v : Value} {xs : List Value} (h : Ob w g T cs) (k : App w base e size v n xs) (hne : T ≠ e) : v.ownBlock ≠ some g := by
  rcases k.is with ⟨rfl, _⟩ | ⟨g', o, cap, cur, rfl, _, hg, _⟩
  · simp [Value.ownBlock]
  · intro e1
    simp [Value.ownBlock] at e1
    subst e1
    have h2 : w.heap[g']? = some (.cells cs T (0, 0)) := h
    rw [h2] at hg
    injection hg with hg
    injection hg with _ ht
    exact hne ht
theorem App.ch {w w' : World} {base n : Nat} {e : TypeId} {size : Nat} {v : Value} {cs : List Value} {L : List Nat} (h : App w base e size v n cs) (k : Ch L w w') (hne : ∀ g ∈ L, v.ownBlock ≠ some g) : App w' base e size v n cs := by
  refine ⟨h.len, ?_⟩
  rcases h.is with hn | ⟨g, o, cap, cur, rfl, hb, hgg, rest⟩
  · exact .inl hn
  · exact .inr ⟨g, o, cap, cur, rfl, hb, (k.block g (heap_lt hgg) (fun hm => hne g hm rfl)).trans hgg, rest⟩
theorem Rd.ch {w w' : World} {A : Option Addr} {cs : List Value} {L : List Nat} (h : Rd w A cs) (k : Ch L w w') (hA : ∀ a, A = some a → a.block ∉ L) : Rd w' A cs := fun hn => by
  obtain ⟨b, o, rfl, hc⟩ := h hn
  refine ⟨b, o, rfl, fun j v hv => ?_⟩
  have h1 := hc j v hv
  rw [World.cell?_of_block (k.block b (World.block_lt_of_cell? w _ h1) (hA _ rfl))]
  exact h1
/-- A slice that was readable in a world lies apart from what was made behind it. -/
theorem Rd.apart {w : World} {A : Option Addr} {cs : List Value} (h : Rd w A cs) (hn : cs ≠ []) : ∀ a, A = some a → a.block < w.heap.size := by
  intro a ha
  obtain ⟨b, o, e, hc⟩ := h hn
  rw [e] at ha
  cases ha
  cases hcs : cs with
  | nil => exact absurd hcs hn
  | cons v l => exact World.block_lt_of_cell? w _ (hc 0 v (by simp [hcs]))
/-- What was readable stays so while only blocks that are newer than it change. -/
theorem Rd.later {w w1 w2 : World} {A : Option Addr} {cs : List Value} {L : List Nat} (h : Rd w A cs) (k1 : Bl w w1) (k2 : Ch L w1 w2) (hL : ∀ g ∈ L, w.heap.size ≤ g) : Rd w2 A cs :=
  h.bl ((k1.ch L).same k2 |>.bl hL)

section
variable {P : Program} {ops : Array Oper} {rest : List Oper} {o : Oper} {a : Act} {Q : Exit → Act → World → Prop} {w : World} {K : Act → World → Prop}
/-- The whole of a variable is written. -/
theorem ob_store (hgd : o.guard = none) (ty : TypeId) (x y : Operand) (ho : o.op = .store ty x y) {g : Nat} {T : TypeId} {old : Array Value} (hg : Ob w g T old) (hx : a.eval x = .pointer (some ⟨g, 0, none⟩)) {cells : Array Value} (hy : a.eval y = .agg cells)
    (hi : (P.info? ty).map (·.size) = some cells.size) (hold : old.size = cells.size) (h1 : cells.all (·.oneCell') = true)
    (h : ∀ w', Ob w' g T cells → Ch [g] w w' → w'.heap.size = w.heap.size → wpList P ops Q rest (a.put o.dst undef) w') : wpList P ops Q (o :: rest) a w :=
  wpList_store_row hgd ty x y ho g cells hx hy T old hg hi hold h1 (h _ hg.row (Ch.setRow w g cells) (by simp))
theorem ob_step_store {E : Prop} (hgd : o.guard = none) (ty : TypeId) (x y : Operand) (ho : o.op = .store ty x y) {g : Nat} {T : TypeId} {old : Array Value} (hg : Ob w g T old) (hx : a.eval x = .pointer (some ⟨g, 0, none⟩)) {cells : Array Value} (hy : a.eval y = .agg cells)
    (hi : (P.info? ty).map (·.size) = some cells.size) (hold : old.size = cells.size) (h1 : cells.all (·.oneCell') = true)
    (h : ∀ w', Ob w' g T cells → Ch [g] w w' → w'.heap.size = w.heap.size → K (a.put o.dst undef) w') : if Region.wanted o (yielded ops a.tmps) = true then Oper.wp P o a w K Q else E := by
  rw [if_pos (by simp [Region.wanted, hgd])]
  exact wp_store_row ty x y ho g cells hx hy T old hg hi hold h1 (h _ hg.row (Ch.setRow w g cells) (by simp))
/-- The whole of a variable is read. -/
theorem ob_load (hgd : o.guard = none) (ty : TypeId) (x : Operand) (ho : o.op = .load ty x) {g : Nat} {T : TypeId} {cs : Array Value} (hg : Ob w g T cs) (hx : a.eval x = .pointer (some ⟨g, 0, none⟩)) {d : TypeDesc}
    (hu : P.underlying ty = some d) (hd : (match d with | .struct _ | .array _ _ => true | _ => false) = true) (hi : (P.info? ty).map (·.size) = some cs.size)
    (h : wpList P ops Q rest (a.put o.dst (.agg cs)) w) : wpList P ops Q (o :: rest) a w := wpList_load_row hgd ty x ho g hx T cs (0, 0) d hg hu hd hi h
/-- One cell of a variable is written. -/
theorem ob_put (hgd : o.guard = none) (ty : TypeId) (x y : Operand) (ho : o.op = .store ty x y) {g i : Nat} {T : TypeId} {cs : Array Value} (hg : Ob w g T cs) (hx : a.eval x = .pointer (some ⟨g, i, none⟩)) {v : Value} (hy : a.eval y = v) (hv : v.oneCell' = true)
    (hi : (P.info? ty).map (·.size) = some 1) (hlt : i < cs.size)
    (h : ∀ w', Ob w' g T (cs.setIfInBounds i v) → Ch [g] w w' → w'.heap.size = w.heap.size → wpList P ops Q rest (a.put o.dst undef) w') : wpList P ops Q (o :: rest) a w := by
  refine wpList_plain hgd fun K hK => ?_
  have hst := run_storeCells_at P g i T [v] 0 cs w hg (by simp; omega) (fun u hu => by simp at hu; subst hu; exact hv)
  obtain ⟨inf, hinf, hs⟩ := Option.map_eq_some_iff.1 hi
  have hcv : v.cells = #[v] := by cases v <;> first | rfl | cases hv
  have hrun : (storeVar ty ⟨g, i, none⟩ v).run P w = .ok () (w.setRow g (cs.toList.take (i + 0) ++ [v] ++ cs.toList.drop (i + 0 + [v].length)).toArray) := by
    simp [storeVar, hcv, sizeOf, typeInfo, hinf, hs, hst]
  have hset : (cs.toList.take (i + 0) ++ [v] ++ cs.toList.drop (i + 0 + [v].length)).toArray = cs.setIfInBounds i v := by
    apply Array.ext'
    simp only [Nat.add_zero, List.length_singleton, List.append_assoc, List.singleton_append, Array.toList_setIfInBounds]
    rw [List.set_eq_take_append_cons_drop, if_pos (by simpa using hlt)]
  rw [hset] at hrun
  unfold Oper.wp execOp
  simp only [ho, hx, hy, Instr.storeAt, Instr.sureAddr, Sem.run_bind, Sem.run_pure, Result.andThen_ok, hrun]
  exact hK _ _ (h _ hg.row (Ch.setRow w g _) (by simp))
end
/-- A struct's variable and one value are handed back. -/
theorem results_ct {P : Program} {fn : Func} {p q : Tmp} {ty : TypeId} (h : fn.results = #[.cell p ty, .tmp q]) (tmps : Array Value) (w : World) {g : Nat} {T : TypeId} {cs : Array Value} {d : TypeDesc} (hg : Ob w g T cs)
    (hp : tmps.getD p undef = .pointer (some ⟨g, 0, none⟩)) {v : Value} (hq : tmps.getD q undef = v)
    (hu : P.underlying ty = some d) (hd : (match d with | .struct _ | .array _ _ => true | _ => false) = true) (hi : (P.info? ty).map (·.size) = some cs.size) :
    (results fn tmps).run P w = .ok (.tuple #[.agg cs, v]) w := by
  have hp' : tmps[p]?.getD undef = .pointer (some ⟨g, 0, none⟩) := by simpa using hp
  have hq' : tmps[q]?.getD undef = v := by simpa using hq
  simp [results, h, hp', hq', asAddr, run_loadVar_row w g T ty cs (0, 0) d hg hu hd hi]
theorem results_c {P : Program} {fn : Func} {p : Tmp} {ty : TypeId} (h : fn.results = #[.cell p ty]) (tmps : Array Value) (w : World) {g : Nat} {T : TypeId} {cs : Array Value} {d : TypeDesc} (hg : Ob w g T cs)
    (hp : tmps.getD p undef = .pointer (some ⟨g, 0, none⟩))
    (hu : P.underlying ty = some d) (hd : (match d with | .struct _ | .array _ _ => true | _ => false) = true) (hi : (P.info? ty).map (·.size) = some cs.size) :
    (results fn tmps).run P w = .ok (.agg cs) w := results_cell_row h tmps w g T cs (0, 0) d hp hg hu hd hi
theorem results_ctct {P : Program} {fn : Func} {p q p2 q2 : Tmp} {ty : TypeId} (h : fn.results = #[.cell p ty, .tmp q, .cell p2 ty, .tmp q2]) (tmps : Array Value) (w : World) {g g2 : Nat} {T T2 : TypeId} {cs cs2 : Array Value} {d : TypeDesc} (hg : Ob w g T cs) (hg2 : Ob w g2 T2 cs2)
    (hp : tmps.getD p undef = .pointer (some ⟨g, 0, none⟩)) {v : Value} (hq : tmps.getD q undef = v) (hp2 : tmps.getD p2 undef = .pointer (some ⟨g2, 0, none⟩)) {v2 : Value} (hq2 : tmps.getD q2 undef = v2)
    (hu : P.underlying ty = some d) (hd : (match d with | .struct _ | .array _ _ => true | _ => false) = true) (hi : (P.info? ty).map (·.size) = some cs.size) (hi2 : (P.info? ty).map (·.size) = some cs2.size) :
    (results fn tmps).run P w = .ok (.tuple #[.agg cs, v, .agg cs2, v2]) w := by
  have hp' : tmps[p]?.getD undef = .pointer (some ⟨g, 0, none⟩) := by simpa using hp
  have hq' : tmps[q]?.getD undef = v := by simpa using hq
  have hp2' : tmps[p2]?.getD undef = .pointer (some ⟨g2, 0, none⟩) := by simpa using hp2
  have hq2' : tmps[q2]?.getD undef = v2 := by simpa using hq2
  simp [results, h, hp', hq', hp2', hq2', asAddr, run_loadVar_row w g T ty cs (0, 0) d hg hu hd hi, run_loadVar_row w g2 T2 ty cs2 (0, 0) d hg2 hu hd hi2]
end Go.Proofs.Ytedmamchfgkkfaa
