/- Words that the proofs of this seat share: make as a step of a region that draws; cuts as rules; worlds in which listed blocks have changed, in chains. -/
import Derived.Test.YtedmamchfgkkfaaLib6
set_option linter.unusedVariables false
set_option linter.unusedSimpArgs false
namespace Go.Proofs.Ytedmamchfgkkfaa
open Go.RowKit
theorem Ch.cellput {L : List Nat} {w w' : World} (h : Ch L w w') {g i : Nat} (hg : g ∈ L) (v : Value) : Ch L w (w'.setCell ⟨g, i, none⟩ v) := h.trans (Ch.put w' g i v) (fun m hm => by simp at hm; subst hm; exact .inl hg)
theorem Ch.newput {L : List Nat} {w w' : World} (h : Ch L w w') {g i : Nat} (hg : w.heap.size ≤ g) (v : Value) : Ch L w (w'.setCell ⟨g, i, none⟩ v) := h.trans (Ch.put w' g i v) (fun m hm => by simp at hm; subst hm; exact .inr hg)
theorem Ch.step {L : List Nat} {w w' w'' : World} (h : Ch L w w') (k : Bl w' w'') : Ch L w w'' := h.thenBl k
section
variable {P : Program} {ops : Array Oper} {o : Oper} {a : Act} {K : Act → World → Prop} {Q : Exit → Act → World → Prop} {w : World} {E : Prop}
/-- make([]T, n), as a step of a region that draws. -/
theorem step_make (hgd : o.guard = none) (t e : TypeId) (l c : Operand) (ho : o.op = .makeSlice t l c) (z : Value) (size bytes : Nat) (ht : P.underlying t = some (.slice e)) (hinfo : (P.info? e).map (fun i => (i.zero, i.size, i.bytes)) = some (some z, size, bytes))
    (n : Nat) (kl kc : IntKind) (hl : a.eval l = .int kl n) (hc : a.eval c = .int kc n) (hb : n * bytes ≤ 281474976710656) (hn : n ≤ 281474976710656) (base : Nat) (hbase : base ≤ w.heap.size)
    (h : ∀ A w', App w' base e size (.slice A n n) n (madeCells z.cells (n * size)).toList → Bl w w' → w'.heap.size = w.heap.size + 1 → (A = some ⟨w.heap.size, 0, none⟩) → K (a.put o.dst (.slice A n n)) w') : if Region.wanted o (yielded ops a.tmps) = true then Oper.wp P o a w K Q else E := by
  rw [if_pos (by simp [Region.wanted, hgd])]
  obtain ⟨i, hi, hzz⟩ := Option.map_eq_some_iff.1 hinfo
  simp only [Prod.mk.injEq] at hzz
  obtain ⟨hz, hsize, hby⟩ := hzz
  subst hsize
  subst hby
  have hr := run_make (P := P) w t e i z ht hi hz kl kc n n (by omega) (by omega) (by rw [← Int.natCast_mul, Nat.mul_comm]; exact Int.ofNat_le.2 hb) (by omega)
  simp only [Int.toNat_natCast] at hr
  unfold Oper.wp
  simp only [execOp, ho, hl, hc]
  simp [hr, Result.andThen]
  exact h _ _ (App.made w _ n hbase (Nat.le_trans hn (by decide)) (by rw [size_madeCells])) ((Bl.refl w).alloc _) (by simp) rfl
end
theorem heap_alloc_at (w : World) (o : Obj) (i : Nat) : (w.alloc o).heap[i]? = if i = w.heap.size then some o else w.heap[i]? := by show (w.heap.push o)[i]? = _; rw [Array.getElem?_push]
theorem heap_alloc_size (w : World) (o : Obj) : (w.alloc o).heap.size = w.heap.size + 1 := by simp
theorem heap_drew_at (w : World) : w.drew.heap = w.heap := rfl
/-- A block of a row's cells, nothing of it taken. -/
theorem App.fresh {w : World} {base g n : Nat} {e : TypeId} {size : Nat} {cur : Array Value} (h : w.heap[g]? = some (.cells cur e (0, 0))) (hb : base ≤ g) (hm : n ≤ maxLen) (hs : cur.size = n * size) : App w base e size (.slice (some ⟨g, 0, none⟩) n n) n cur.toList :=
  ⟨by simpa using hs, .inr ⟨g, 0, n, cur, rfl, hb, h, Nat.le_refl _, hm, by omega, by rw [List.drop_zero, List.take_of_length_le (by simpa using Nat.le_of_eq hs)]⟩⟩
section
variable {P : Program}
/-- make([]T, n) as a rule for the walk. -/
theorem make_rule (t e : TypeId) (z : Value) (size bytes : Nat) (ht : P.underlying t = some (.slice e)) (hinfo : (P.info? e).map (fun i => (i.zero, i.size, i.bytes)) = some (some z, size, bytes)) (n : Nat) (hb : n * bytes ≤ 281474976710656) (hn : n ≤ 281474976710656) (w : World) :
    (Instr.makeSlice t (.int .i64 (n : Int)) (.int .i64 (n : Int))).run P w = .ok (.slice (some ⟨w.heap.size, 0, none⟩) n n) (w.alloc (.cells (madeCells z.cells (n * size)) e)) := by
  obtain ⟨i, hi, hzz⟩ := Option.map_eq_some_iff.1 hinfo
  simp only [Prod.mk.injEq] at hzz
  obtain ⟨hz, hsize, hby⟩ := hzz
  subst hsize
  subst hby
  have hr := run_make (P := P) w t e i z ht hi hz .i64 .i64 n n (by omega) (by omega) (by rw [← Int.natCast_mul, Nat.mul_comm]; exact Int.ofNat_le.2 hb) (by omega)
  simpa only [Int.toNat_natCast] using hr
/-- x[:k:k], x[k:], x[:k] as rules for the walk. -/
theorem cut_hm (t e : TypeId) (size : Nat) (ht : P.underlying t = some (.slice e)) (hsz : (P.info? e).map (·.size) = some size) (A : Option Addr) (n c k : Nat) (hk : k ≤ c) (w : World) :
    (Instr.sliceAt t (.slice A n c) none (some (.int .i64 (k : Int))) (some (.int .i64 (k : Int)))).run P w = .ok (.slice A k k) w := by
  have h := run_cut (P := P) (w := w) t e size ht hsz A n c none (some (.int .i64 (k : Int))) (some (.int .i64 (k : Int))) 0 k k (by have := bounds_hm (P := P) (w := w) n c .i64 .i64 (k : Int) (k : Int) (by omega) (by omega) (by omega); simpa using this)
  rw [cutAddr_zero] at h
  simpa using h
theorem cut_l (t e : TypeId) (size : Nat) (ht : P.underlying t = some (.slice e)) (hsz : (P.info? e).map (·.size) = some size) (A : Option Addr) (n c k : Nat) (hk : k ≤ n) (w : World) :
    (Instr.sliceAt t (.slice A n c) (some (.int .i64 (k : Int))) none none).run P w = .ok (.slice (cutAddr A size k c) (n - k) (c - k)) w :=
  run_cut (P := P) (w := w) t e size ht hsz A n c _ _ _ k n c (bl_nat n c .i64 k hk)
theorem cut_h (t e : TypeId) (size : Nat) (ht : P.underlying t = some (.slice e)) (hsz : (P.info? e).map (·.size) = some size) (A : Option Addr) (n c k : Nat) (hk : k ≤ c) (w : World) :
    (Instr.sliceAt t (.slice A n c) none (some (.int .i64 (k : Int))) none).run P w = .ok (.slice A k c) w := by
  have h := run_cut (P := P) (w := w) t e size ht hsz A n c none (some (.int .i64 (k : Int))) none 0 k c (bh_nat n c .i64 k hk)
  rw [cutAddr_zero] at h
  simpa using h
end
end Go.Proofs.Ytedmamchfgkkfaa
