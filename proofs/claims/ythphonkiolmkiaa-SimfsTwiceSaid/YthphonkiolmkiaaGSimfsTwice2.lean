/- Texts of the claim SimfsTwice, part 2: SepM, StrOrd, SimA, Lib6, Lib7, SimS, Lib8, SimC, SimD, SepN, SimE, SepO, SimF. -/
import Derived.Test.YthphonkiolmkiaaGSimfsTwice1
import Derived.MapKept
import Derived.ChangeMaps4
import Derived.Maps.RangeRun
import Derived.Maps.OwnSet
import Derived.Lib.ConvBytes
import Derived.StillTailTactics
/- Maps as parts of memory: what lookup, update, delete, len, range and next make of them. No program in sight. -/
set_option linter.unusedVariables false
set_option linter.unusedSimpArgs false
namespace Go.Proofs.Ythphonkiolmkiaa
set_option linter.unusedSectionVars false
open Go.RowKit Go.MapKept
open Go.ChangeMaps (setBlock)
universe v

/-- Block b is a map of just those entries, in the order of their laying. -/
def MapIs (w : World) (b : Nat) (d : TypeDesc) (l : List (Value × Value)) : Prop :=
  ∃ es clock, w.heap[b]? = some (.map es clock) ∧ Stamped es clock ∧ (∀ x ∈ es.toList, IsKey d x.key) ∧ es.toList.map (fun e => (e.key, e.val)) = l
/-- How keys lie in cells. -/
structure KeyEnc {α : Type} (d : TypeDesc) (kE : α → Value) : Prop where
  key : ∀ a, IsKey d (kE a)
  inj : ∀ a b, kE a = kE b → a = b
theorem strEnc : KeyEnc .string (fun s : ByteArray => Value.string s) := ⟨fun _ => trivial, fun _ _ h => by simpa using h⟩
theorem intEnc : KeyEnc (.int .i64) (fun n : Nat => Value.int .i64 (n : Int)) := ⟨fun _ => rfl, fun a b h => by
  have h2 : (a : Int) = (b : Int) := by simpa using h
  omega⟩

section
variable {α β : Type} [DecidableEq α]
def mGet (L : List (α × β)) (k : α) : Option β := (L.find? (fun p => decide (p.1 = k))).map (·.2)
def mPut (L : List (α × β)) (k : α) (v : β) : List (α × β) := if L.any (fun p => decide (p.1 = k)) then L.map (fun p => if p.1 = k then (k, v) else p) else L ++ [(k, v)]
def mDel (L : List (α × β)) (k : α) : List (α × β) := L.filter (fun p => !decide (p.1 = k))
def mEnc (kE : α → Value) (vE : β → Value) (L : List (α × β)) : List (Value × Value) := L.map (fun p => (kE p.1, vE p.2))
def KeysNd (L : List (α × β)) : Prop := L.Pairwise (fun p q => p.1 ≠ q.1)
theorem mGet_none {L : List (α × β)} {k : α} (h : ∀ p ∈ L, p.1 ≠ k) : mGet L k = none := by
  unfold mGet
  rw [List.find?_eq_none.2 (fun p hp => by simpa using h p hp)]; rfl
theorem mGet_at {L : List (α × β)} {k : α} {v : β} {j : Nat} (hn : KeysNd L) (h : L[j]? = some (k, v)) : mGet L k = some v := by
  induction L generalizing j with
  | nil => simp at h
  | cons p L ih =>
    unfold KeysNd at hn
    rw [List.pairwise_cons] at hn
    unfold mGet
    rw [List.find?_cons]
    cases j with
    | zero => simp at h; subst h; simp
    | succ j =>
      have h' : L[j]? = some (k, v) := by simpa using h
      have hne := hn.1 (k, v) (List.mem_of_getElem? h')
      rw [show decide (p.1 = k) = false by simpa using hne]
      exact ih hn.2 h'
theorem mPut_new {L : List (α × β)} {k : α} {v : β} (h : ∀ p ∈ L, p.1 ≠ k) : mPut L k v = L ++ [(k, v)] := by
  unfold mPut
  rw [if_neg]
  rw [List.any_eq_true]
  rintro ⟨p, hp, e⟩
  exact h p hp (by simpa using e)
theorem mPut_at {L : List (α × β)} {k : α} {v u : β} {j : Nat} (hn : KeysNd L) (h : L[j]? = some (k, u)) : mPut L k v = L.set j (k, v) := by
  unfold mPut
  rw [if_pos (List.any_eq_true.2 ⟨_, List.mem_of_getElem? h, by simp⟩)]
  apply List.ext_getElem?
  intro i
  rw [List.getElem?_map, List.getElem?_set]
  have hj := (List.getElem?_eq_some_iff.1 h).1
  by_cases e : j = i
  · subst e; rw [if_pos rfl, if_pos hj, h]; simp
  · rw [if_neg e]
    cases hi : L[i]? with
    | none => rfl
    | some q =>
      have hq : q.1 ≠ k := by
        unfold KeysNd at hn
        rw [List.pairwise_iff_getElem] at hn
        have hil := (List.getElem?_eq_some_iff.1 hi).1
        have e1 : L[i] = q := by rw [List.getElem?_eq_getElem hil] at hi; exact Option.some.inj hi
        have e2 : L[j] = (k, u) := by rw [List.getElem?_eq_getElem hj] at h; exact Option.some.inj h
        rcases Nat.lt_or_gt_of_ne e with hlt | hlt
        · have := hn j i hj hil hlt; rw [e1, e2] at this; exact this.symm
        · have := hn i j hil hj hlt; rw [e1, e2] at this; exact this
      simp [hq]
theorem mDel_none {L : List (α × β)} {k : α} (h : ∀ p ∈ L, p.1 ≠ k) : mDel L k = L := by
  unfold mDel
  rw [List.filter_eq_self]
  intro p hp
  simpa using h p hp
theorem mDel_at {L : List (α × β)} {k : α} {v : β} {j : Nat} (hn : KeysNd L) (h : L[j]? = some (k, v)) : mDel L k = L.eraseIdx j := by
  induction L generalizing j with
  | nil => simp at h
  | cons p L ih =>
    unfold KeysNd at hn
    rw [List.pairwise_cons] at hn
    unfold mDel
    rw [List.filter_cons]
    cases j with
    | zero =>
      simp at h
      subst h
      simp only [decide_true, Bool.not_true, Bool.false_eq_true, if_false, List.eraseIdx_zero]
      exact mDel_none (fun q hq => (hn.1 q hq).symm)
    | succ j =>
      have h' : L[j]? = some (k, v) := by simpa using h
      have hne := hn.1 (k, v) (List.mem_of_getElem? h')
      rw [show decide (p.1 = k) = false by simpa using hne]
      simp only [Bool.not_false, if_true, List.eraseIdx_cons_succ]
      congr 1
      exact ih hn.2 h'
end

section
variable {α β : Type} {P : Program} {w : World} {b : Nat} {d : TypeDesc} {t kt et : TypeId} {kE : α → Value} {vE : β → Value} {L : List (α × β)}
theorem MapIs.nd (h : MapIs w b d (mEnc kE vE L)) : KeysNd L := by
  obtain ⟨es, clock, _, hs, _, hl⟩ := h
  have h3 := ((stamped_iff es clock).1 hs).2.2
  have : (es.toList.map (fun e => (e.key, e.val))).Pairwise (fun p q => p.1 ≠ q.1) := by rw [List.pairwise_map]; exact h3
  rw [hl] at this
  unfold mEnc at this
  rw [List.pairwise_map] at this
  exact this.imp (fun h e => h (by rw [e]))
variable [DecidableEq α]
theorem MapIs.find (h : MapIs w b d (mEnc kE vE L)) (K : KeyEnc d kE) (k : α) :
    ∃ es clock, w.heap[b]? = some (.map es clock) ∧ Stamped es clock ∧ (∀ x ∈ es.toList, IsKey d x.key) ∧ es.toList.map (fun e => (e.key, e.val)) = mEnc kE vE L ∧
    ((Instr.findNow d (kE k) es.toList 0 = some none ∧ (∀ x ∈ es.toList, x.key ≠ kE k) ∧ ∀ p ∈ L, p.1 ≠ k) ∨ ∃ j e v, Instr.findNow d (kE k) es.toList 0 = some (some (j, e.val)) ∧ es.toList[j]? = some e ∧ e.key = kE k ∧ e.val = vE v ∧ L[j]? = some (k, v)) := by
  obtain ⟨es, clock, hb, hs, hk, hl⟩ := h
  refine ⟨es, clock, hb, hs, hk, hl, ?_⟩
  rcases findNow_spec (K.key k) es.toList 0 hk with ⟨h1, h2⟩ | ⟨j, e, h1, h2, h3⟩
  · refine .inl ⟨h1, h2, fun p hp e => ?_⟩
    have : (kE p.1, vE p.2) ∈ mEnc kE vE L := List.mem_map.2 ⟨p, hp, rfl⟩
    rw [← hl] at this
    obtain ⟨x, hx, hxe⟩ := List.mem_map.1 this
    have := h2 x hx
    simp only [Prod.mk.injEq] at hxe
    rw [hxe.1, e] at this
    exact this rfl
  · rw [Nat.zero_add] at h1
    have hm : (mEnc kE vE L)[j]? = some (e.key, e.val) := by rw [← hl, List.getElem?_map, h2]; rfl
    unfold mEnc at hm
    rw [List.getElem?_map] at hm
    obtain ⟨p, hp, hpe⟩ := Option.map_eq_some_iff.1 hm
    simp only [Prod.mk.injEq] at hpe
    refine .inr ⟨j, e, p.2, h1, h2, h3, hpe.2.symm, ?_⟩
    rw [hp]
    have : p.1 = k := K.inj _ _ (hpe.1.trans h3)
    rw [← this]
theorem MapIs.lookup (h : MapIs w b d (mEnc kE vE L)) (K : KeyEnc d kE) (ht : P.underlying t = some (.map kt et)) (hd : P.underlying kt = some d) {z : Value} (hz : (zeroValue et).run P w = .ok z w) (k : α) (ck : Bool) :
    (Instr.lookup t (.map (some b)) (kE k) ck).run P w = .ok (if ck then .tuple #[match mGet L k with | some v => vE v | none => z, .bool (mGet L k).isSome] else match mGet L k with | some v => vE v | none => z) w := by
  have hnd := h.nd
  obtain ⟨es, clock, hb, _, _, _, hf⟩ := h.find K k
  rcases hf with ⟨h1, _, h3⟩ | ⟨j, e, v, h1, h2, h3, h4, h5⟩
  · rw [mGet_none h3]
    cases ck <;> simp [Instr.lookup, run_underlying ht, MapKept.run_getObj_map hb, run_checkKey hd (K.key k), run_findKey hd h1, hz, Result.andThen]
  · rw [mGet_at hnd h5]
    cases ck <;> simp [Instr.lookup, run_underlying ht, MapKept.run_getObj_map hb, run_checkKey hd (K.key k), run_findKey hd h1, h4, Result.andThen]
theorem setBlock_ch {w : World} {b : Nat} {o : Obj} (o' : Obj) (hb : w.heap[b]? = some o) : Ch [b] w (setBlock w b o') ∧ (setBlock w b o').heap[b]? = some o' ∧ (setBlock w b o').heap.size = w.heap.size := by
  have h := MapKept.heap_set (o' := o') hb
  exact ⟨⟨rfl, rfl, rfl, by simp [setBlock], fun k _ hk => h.2 k (by simpa using hk)⟩, h.1, by simp [setBlock]⟩
theorem map_modify {es : Array MapEntry} {j : Nat} {e : MapEntry} (h : es.toList[j]? = some e) (k v : Value) : (es.modify j (fun e' => { e' with key := k, val := v })).toList.map (fun e => (e.key, e.val)) = (es.toList.map (fun e => (e.key, e.val))).set j (k, v) := by
  rw [Array.toList_modify]
  apply List.ext_getElem?
  intro i
  have hj := (List.getElem?_eq_some_iff.1 h).1
  rw [List.getElem?_map, List.getElem?_modify, List.getElem?_set, List.length_map, List.getElem?_map]
  have hj2 : j < es.size := by simpa using hj
  by_cases e : j = i
  · subst e; simp [h, hj2]
  · simp [e]
theorem MapIs.update (h : MapIs w b d (mEnc kE vE L)) (K : KeyEnc d kE) (ht : P.underlying t = some (.map kt et)) (hd : P.underlying kt = some d) (k : α) (v : β) :
    ∃ w', (Instr.mapUpdate t (.map (some b)) (kE k) (vE v)).run P w = .ok () w' ∧ MapIs w' b d (mEnc kE vE (mPut L k v)) ∧ Ch [b] w w' ∧ w'.heap.size = w.heap.size := by
  have hnd := h.nd
  obtain ⟨es, clock, hb, hs, hk, hl, hf⟩ := h.find K k
  rcases hf with ⟨h1, h2, h3⟩ | ⟨j, e, u, h1, h2, h3, h4, h5⟩
  · obtain ⟨c1, c2, c3⟩ := setBlock_ch (.map (es.push ⟨kE k, vE v, clock⟩) (clock + 1)) hb
    refine ⟨_, ?_, ⟨_, _, c2, stamped_push hs h2, ?_, ?_⟩, c1, c3⟩
    · simp [Instr.mapUpdate, run_underlying ht, MapKept.run_getObj_map hb, run_checkKey hd (K.key k), run_findKey hd h1, run_setObj_map _ hb, Result.andThen, setBlock]
    · intro x hx
      simp only [Array.toList_push, List.mem_append, List.mem_singleton] at hx
      rcases hx with hx | rfl
      · exact hk x hx
      · exact K.key k
    · rw [mPut_new h3, Array.toList_push, List.map_append, hl]
      simp [mEnc]
  · have hj : es[j]? = some e := by simpa using h2
    obtain ⟨c1, c2, c3⟩ := setBlock_ch (.map (es.modify j (fun e' => { e' with key := kE k, val := vE v })) clock) hb
    refine ⟨_, ?_, ⟨_, _, c2, stamped_modify hs _ _ (fun _ _ => rfl) (fun e' _ he' => by rw [hj] at he'; cases he'; exact h3.symm), isKey_modify hk _ _ (fun e' he' => by rw [hj] at he'; cases he'; exact h3.symm), ?_⟩, c1, c3⟩
    · simp [Instr.mapUpdate, run_underlying ht, MapKept.run_getObj_map hb, run_checkKey hd (K.key k), run_findKey hd h1, hj, h3, run_keyThatStays (K.key k), run_setObj_map _ hb, Result.andThen, setBlock]
    · rw [map_modify h2, hl, mPut_at hnd h5]
      simp [mEnc, List.map_set]
theorem MapIs.delete (h : MapIs w b d (mEnc kE vE L)) (K : KeyEnc d kE) (ht : P.underlying t = some (.map kt et)) (hd : P.underlying kt = some d) (k : α) (kt' ty : TypeId) :
    ∃ w', (Builtin.delete_ #[t, kt'] ty #[.map (some b), kE k]).run P w = .ok (.tuple #[]) w' ∧ MapIs w' b d (mEnc kE vE (mDel L k)) ∧ Ch [b] w w' ∧ w'.heap.size = w.heap.size := by
  have hnd := h.nd
  obtain ⟨es, clock, hb, hs, hk, hl, hf⟩ := h.find K k
  rcases hf with ⟨h1, h2, h3⟩ | ⟨j, e, u, h1, h2, h3, h4, h5⟩
  · obtain ⟨c1, c2, c3⟩ := setBlock_ch (.map es clock) hb
    refine ⟨_, ?_, ⟨_, _, c2, hs, hk, ?_⟩, c1, c3⟩
    · simp [Builtin.delete_, run_underlying ht, MapKept.run_getObj_map hb, run_checkKey hd (K.key k), run_findKey hd h1, run_setObj_map _ hb, Result.andThen, setBlock]
    · rw [mDel_none h3]; exact hl
  · have hj : es[j]? = some e := by simpa using h2
    have hjl : j < es.size := (Array.getElem?_eq_some_iff.1 hj).1
    obtain ⟨c1, c2, c3⟩ := setBlock_ch (.map (es.eraseIdxIfInBounds j) clock) hb
    have he : (es.eraseIdxIfInBounds j).toList = es.toList.eraseIdx j := by
      unfold Array.eraseIdxIfInBounds
      rw [dif_pos hjl, Array.toList_eraseIdx]
    refine ⟨_, ?_, ⟨_, _, c2, stamped_erase hs _, fun x hx => hk x (by rw [he] at hx; exact List.mem_of_mem_eraseIdx hx), ?_⟩, c1, c3⟩
    · simp [Builtin.delete_, run_underlying ht, MapKept.run_getObj_map hb, run_checkKey hd (K.key k), run_findKey hd h1, run_setObj_map _ hb, Result.andThen, setBlock]
    · rw [he, mDel_at hnd h5, List.eraseIdx_eq_take_drop_succ, List.map_append, List.map_take, List.map_drop, hl]
      unfold mEnc
      rw [← List.map_take, ← List.map_drop, ← List.map_append, ← List.eraseIdx_eq_take_drop_succ]
/-- len(m). -/
theorem MapIs.len (h : MapIs w b d (mEnc kE vE L)) (ht : P.underlying t = some (.map kt et)) (ty : TypeId) : (Builtin.len_ #[t] ty #[.map (some b)]).run P w = .ok (.int .i64 L.length) w := by
  obtain ⟨es, clock, hb, _, _, hl⟩ := h
  have hs : es.size = L.length := by
    have := congrArg List.length hl
    simpa [mEnc] using this
  simp [Builtin.len_, Builtin.lenOf, run_underlying ht, MapKept.run_getObj_map hb, Result.andThen, hs, goInt]

/-- A map as a part of memory. -/
def mapC (b : Nat) (d : TypeDesc) (kE : α → Value) (vE : β → Value) (L : List (α × β)) : Chunk where
  holds w S := (∀ x, S x ↔ x = b) ∧ MapIs w b d (mEnc kE vE L)
  loc {w w' S} h k := ⟨h.1, by
    obtain ⟨es, clock, hb, r⟩ := h.2
    exact ⟨es, clock, (k b ((h.1 b).2 rfl)).trans hb, r⟩⟩
  lt {w S x} h hx := by
    obtain ⟨es, clock, hb, _⟩ := h.2
    rw [(h.1 _).1 hx]
    exact heap_lt hb
end
section
variable {α β : Type} {P : Program} {w0 w w' : World} {cs : List Chunk} {b : Nat} {d : TypeDesc} {t kt et : TypeId} {kE : α → Value} {vE : β → Value} {L : List (α × β)}
theorem Mem.map' (h : Mem w0 cs w) (i : Nat) (hi : cs[i]? = some (mapC b d kE vE L)) : MapIs w b d (mEnc kE vE L) := by
  obtain ⟨S, _, h2⟩ := h.at i hi
  exact h2
theorem Mem.mapSet (h : Mem w0 cs w) (i : Nat) (hi : cs[i]? = some (mapC b d kE vE L)) {L' : List (α × β)} (hm : MapIs w' b d (mEnc kE vE L')) (hc : Ch [b] w w') : Mem w0 (cs.set i (mapC b d kE vE L')) w' := by
  obtain ⟨S1, ⟨h1, _⟩, h3⟩ := h.set i hi
  exact h3 _ w' (fun x => x = b) ⟨fun _ => Iff.rfl, hm⟩ (fun x hx => .inl ((h1 x).2 hx)) (fun x hx hn => hc.block x hx (fun hm => hn ((h1 x).2 (by simpa using hm)))) hc.os hc.tape hc.output
theorem Mem.mapNew (h : Mem w0 cs w) (d : TypeDesc) (kE : α → Value) (vE : β → Value) : Mem w0 (mapC w.heap.size d kE vE [] :: cs) (w.alloc (.map #[] 0)) :=
  h.new ((Bl.refl w).alloc _) (S := fun x => x = w.heap.size) ⟨fun _ => Iff.rfl, ⟨#[], 0, heap_alloc_new w _, stamped_empty 0, by simp, rfl⟩⟩ (fun x hx => by omega)
variable [DecidableEq α] {ops : Array Oper} {rest : List Oper} {o : Oper} {a : Act} {Q : Exit → Act → World → Prop} {K : Act → World → Prop} {E : Prop}
theorem wp_mapPut (m k v : Operand) (hop : o.op = Op.mapUpdate t m k v) (KE : KeyEnc d kE) (ht : P.underlying t = some (.map kt et)) (hd : P.underlying kt = some d) (M : Mem w0 cs w) (i : Nat) (hi : cs[i]? = some (mapC b d kE vE L)) (hm : a.eval m = .map (some b)) {key : α} (hk : a.eval k = kE key) {val : β} (hv : a.eval v = vE val)
    (h : ∀ w', Mem w0 (cs.set i (mapC b d kE vE (mPut L key val))) w' → Ch [b] w w' → w'.heap.size = w.heap.size → K (a.put o.dst undef) w') : o.wp P a w K Q := by
  obtain ⟨w', hr, h1, h2, h3⟩ := (M.map' i hi).update KE ht hd key val
  unfold Oper.wp
  simp [execOp, hop, hm, hk, hv, hr, Result.andThen]
  exact h _ (M.mapSet i hi h1 h2) h2 h3
theorem map_put (hg : o.guard = none) (m k v : Operand) (hop : o.op = Op.mapUpdate t m k v) (KE : KeyEnc d kE) (ht : P.underlying t = some (.map kt et)) (hd : P.underlying kt = some d) (M : Mem w0 cs w) (i : Nat) (hi : cs[i]? = some (mapC b d kE vE L)) (hm : a.eval m = .map (some b)) {key : α} (hk : a.eval k = kE key) {val : β} (hv : a.eval v = vE val)
    (h : ∀ w', Mem w0 (cs.set i (mapC b d kE vE (mPut L key val))) w' → Ch [b] w w' → w'.heap.size = w.heap.size → wpList P ops Q rest (a.put o.dst undef) w') : wpList P ops Q (o :: rest) a w :=
  wpList_plain hg fun _ hK => wp_mapPut m k v hop KE ht hd M i hi hm hk hv fun w' h1 h2 h3 => hK _ _ (h w' h1 h2 h3)
theorem step_mapPut (hg : o.guard = none) (m k v : Operand) (hop : o.op = Op.mapUpdate t m k v) (KE : KeyEnc d kE) (ht : P.underlying t = some (.map kt et)) (hd : P.underlying kt = some d) (M : Mem w0 cs w) (i : Nat) (hi : cs[i]? = some (mapC b d kE vE L)) (hm : a.eval m = .map (some b)) {key : α} (hk : a.eval k = kE key) {val : β} (hv : a.eval v = vE val)
    (h : ∀ w', Mem w0 (cs.set i (mapC b d kE vE (mPut L key val))) w' → Ch [b] w w' → w'.heap.size = w.heap.size → K (a.put o.dst undef) w') : if Region.wanted o (yielded ops a.tmps) = true then Oper.wp P o a w K Q else E := by
  rw [if_pos (by simp [Region.wanted, hg])]
  exact wp_mapPut m k v hop KE ht hd M i hi hm hk hv h
theorem map_del (hg : o.guard = none) (m k : Operand) (kt' : TypeId) (hop : o.op = Op.call { callee := Callee.builtin Builtin.delete, args := #[m, k], argTypes := #[t, kt'] }) (KE : KeyEnc d kE) (ht : P.underlying t = some (.map kt et)) (hd : P.underlying kt = some d) (M : Mem w0 cs w) (i : Nat) (hi : cs[i]? = some (mapC b d kE vE L)) (hm : a.eval m = .map (some b)) {key : α} (hk : a.eval k = kE key)
    (h : ∀ w', Mem w0 (cs.set i (mapC b d kE vE (mDel L key))) w' → Ch [b] w w' → w'.heap.size = w.heap.size → wpList P ops Q rest (a.put o.dst (.tuple #[])) w') : wpList P ops Q (o :: rest) a w := by
  refine wpList_plain hg fun K' hK => ?_
  obtain ⟨w', hr, h1, h2, h3⟩ := (M.map' i hi).delete KE ht hd key kt' o.type
  unfold Oper.wp
  simp [execOp, hop, resolve, invoke, builtin, hm, hk, hr, Result.andThen]
  exact hK _ _ (h _ (M.mapSet i hi h1 h2) h2 h3)
end

/-! ### range over a map that stays -/
section
variable {α β : Type} {P : Program} {w0 w w' : World} {cs : List Chunk} {b r : Nat} {d : TypeDesc} {t kt et : TypeId} {kE : α → Value} {vE : β → Value} {L left : List (α × β)}
/-- Map b under the iterator r; 'left' is what is still to come. -/
def MapRng (w : World) (b r : Nat) (d : TypeDesc) (l left : List (Value × Value)) : Prop :=
  ∃ es clock seen, w.heap[b]? = some (.map es clock) ∧ Stamped es clock ∧ (∀ x ∈ es.toList, IsKey d x.key) ∧ es.toList.map (fun e => (e.key, e.val)) = l ∧ w.heap[r]? = some (.mapIter (some b) clock seen clock) ∧ (leftOf es seen).toList.map (fun e => (e.key, e.val)) = left
def rngC (b r : Nat) (d : TypeDesc) (kE : α → Value) (vE : β → Value) (L left : List (α × β)) : Chunk where
  holds w S := (∀ x, S x ↔ x = b ∨ x = r) ∧ MapRng w b r d (mEnc kE vE L) (mEnc kE vE left)
  loc {w w' S} h k := ⟨h.1, by
    obtain ⟨es, clock, seen, h1, h2, h3, h4, h5, h6⟩ := h.2
    exact ⟨es, clock, seen, (k b ((h.1 b).2 (.inl rfl))).trans h1, h2, h3, h4, (k r ((h.1 r).2 (.inr rfl))).trans h5, h6⟩⟩
  lt {w S x} h hx := by
    obtain ⟨es, clock, seen, h1, _, _, _, h5, _⟩ := h.2
    rcases (h.1 _).1 hx with rfl | rfl
    · exact heap_lt h1
    · exact heap_lt h5
theorem leftOf_nil (es : Array MapEntry) : leftOf es #[] = es := by
  unfold leftOf
  exact Array.filter_eq_self.2 (fun x _ => by simp)
theorem Mem.rngStart (h : Mem w0 (mapC b d kE vE L :: cs) w) (ht : P.underlying t = some (.map kt et)) :
    ∃ o, (Instr.range t (.map (some b))).run P w = .ok (.pointer (some ⟨w.heap.size, 0, none⟩)) (w.alloc o) ∧ Mem w0 (rngC b w.heap.size d kE vE L L :: cs) (w.alloc o) := by
  obtain ⟨es, clock, hb, hs, hk, hl⟩ := h.map' 0 rfl
  refine ⟨.mapIter (some b) clock #[] clock, ?_, ?_⟩
  · simp [Instr.range, run_underlying ht, MapKept.run_getObj_map hb, Result.andThen]
  · obtain ⟨S1, ⟨h1, _⟩, h3⟩ := h.set 0 rfl
    have hlt := heap_lt hb
    refine h3 (rngC b w.heap.size d kE vE L L) (w.alloc (.mapIter (some b) clock #[] clock)) (fun x => x = b ∨ x = w.heap.size) ⟨fun x => Iff.rfl, es, clock, #[], ?_, hs, hk, hl, heap_alloc_new w _, ?_⟩ (fun x hx => ?_) (fun x hx _ => heap_alloc_old w _ hx) rfl rfl rfl
    · rw [heap_alloc_old w _ hlt]; exact hb
    · rw [leftOf_nil]; exact hl
    · rcases hx with rfl | rfl
      · exact .inl ((h1 _).2 rfl)
      · exact .inr (Nat.le_refl _)
theorem leftOf_push (es : Array MapEntry) (seen : Array Nat) (n : Nat) : (leftOf es (seen.push n)).toList = (leftOf es seen).toList.filter (fun e => e.born != n) := by
  unfold leftOf
  simp only [Array.toList_filter, List.filter_filter]
  apply List.filter_congr
  intro x _
  rw [Array.contains_push]
  by_cases e : x.born = n
  · simp [e]
  · have e2 : (x.born == n) = false := by simpa using e
    simp [e2, bne]
theorem filter_born {l : List MapEntry} (hn : (l.map (·.born)).Nodup) {j : Nat} {e : MapEntry} (h : l[j]? = some e) : l.filter (fun x => x.born != e.born) = l.eraseIdx j := by
  induction l generalizing j with
  | nil => simp at h
  | cons x l ih =>
    rw [List.map_cons, List.nodup_cons] at hn
    cases j with
    | zero =>
      have h' : x = e := by simpa using h
      subst h'
      rw [List.filter_cons_of_neg (by simp), List.eraseIdx_cons_zero, List.filter_eq_self]
      intro y hy
      have : y.born ≠ x.born := fun hc => hn.1 (hc ▸ List.mem_map_of_mem hy)
      simpa using this
    | succ j =>
      have h' : l[j]? = some e := by simpa using h
      have hne : x.born ≠ e.born := fun hc => hn.1 (hc ▸ List.mem_map_of_mem (List.mem_of_getElem? h'))
      rw [List.filter_cons_of_pos (by simpa using hne), List.eraseIdx_cons_succ, ih hn.2 h']
/-- One step of the range: nothing is left, or one of what is left comes out. -/
theorem Mem.rngNext (h : Mem w0 (rngC b r d kE vE L left :: cs) w) (ty : TypeId) :
    (left = [] ∧ (Instr.next (.pointer (some ⟨r, 0, none⟩)) false ty).run P w = .ok (.tuple #[.bool false]) w) ∨
    ∃ j p w', left[j]? = some p ∧ (Instr.next (.pointer (some ⟨r, 0, none⟩)) false ty).run P w = .ok (.tuple #[.bool true, kE p.1, vE p.2]) w' ∧
      (Instr.entry (.pointer (some ⟨r, 0, none⟩))).run P w' = .ok (.tuple #[kE p.1, vE p.2]) w' ∧
      Mem w0 (rngC b r d kE vE L (left.eraseIdx j) :: cs) w' ∧ w'.heap.size = w.heap.size := by
  obtain ⟨S1, ⟨h1, es, clock, seen, hb, hs, hk, hl, hr, hf⟩, h3⟩ := h.set 0 rfl
  have hsub : ∀ {x : MapEntry}, x ∈ (leftOf es seen).toList → x ∈ es.toList := by
    intro x hx
    unfold leftOf at hx
    rw [Array.toList_filter] at hx
    exact (List.mem_filter.1 hx).1
  rcases run_next_at (P := P) w ty r b clock clock seen es clock hr hb (fun x hx => hs.1 x hx) (Nat.le_refl _) with ⟨a1, a2⟩ | ⟨e, he, w1, hw, a2⟩
  · refine .inl ⟨?_, a2⟩
    have : (leftOf es seen).toList = [] := by
      rw [Array.toList_eq_nil_iff]; exact Array.eq_empty_of_size_eq_zero a1
    rw [this] at hf
    exact List.map_eq_nil_iff.1 hf.symm
  · obtain ⟨j, hj⟩ := List.getElem?_of_mem he
    have hm : (mEnc kE vE left)[j]? = some (e.key, e.val) := by rw [← hf, List.getElem?_map, hj]; rfl
    unfold mEnc at hm
    rw [List.getElem?_map] at hm
    obtain ⟨p, hp, hpe⟩ := Option.map_eq_some_iff.1 hm
    simp only [Prod.mk.injEq] at hpe
    have hr1 : w1.heap[r]? = some (.mapIter (some b) clock seen clock) := by rcases hw with rfl | rfl <;> exact hr
    have hb1 : w1.heap[b]? = some (.map es clock) := by rcases hw with rfl | rfl <;> exact hb
    have hne : b ≠ r := by
      rintro rfl
      rw [hb] at hr
      cases hr
    obtain ⟨c1, c2, c3⟩ := setBlock_ch (.mapIter (some b) clock (seen.push e.born) clock) hr1
    have hb2 : (setBlock w1 r (.mapIter (some b) clock (seen.push e.born) clock)).heap[b]? = some (.map es clock) := (c1.block b (heap_lt hb1) (by simpa using hne)).trans hb1
    have hw1 : w1.heap = w.heap ∧ w1.os = w.os ∧ w1.tape = w.tape ∧ w1.output = w.output := by rcases hw with rfl | rfl <;> exact ⟨rfl, rfl, rfl, rfl⟩
    refine .inr ⟨j, p, _, hp, by rw [hpe.1, hpe.2]; exact a2, ?_, ?_, c3.trans (by rw [hw1.1])⟩
    · rw [hpe.1, hpe.2]
      exact run_entry_at _ r b clock seen es clock e c2 hb2 (hsub he) hs.2.1
    · refine h3 (rngC b r d kE vE L (left.eraseIdx j)) _ (fun x => x = b ∨ x = r) ⟨fun x => Iff.rfl, es, clock, seen.push e.born, hb2, hs, hk, hl, c2, ?_⟩ (fun x hx => .inl ((h1 x).2 hx)) (fun x hx hn => ?_) (c1.os.trans hw1.2.1) (c1.tape.trans hw1.2.2.1) (c1.output.trans hw1.2.2.2)
      · have hnd : ((leftOf es seen).toList.map (·.born)).Nodup := by
          have hsl : (leftOf es seen).toList.Sublist es.toList := by
            unfold leftOf
            rw [Array.toList_filter]
            exact List.filter_sublist
          exact (hsl.map _).nodup hs.2.1
        rw [leftOf_push, filter_born hnd hj, List.eraseIdx_eq_take_drop_succ, List.map_append, List.map_take, List.map_drop, hf]
        unfold mEnc
        rw [← List.map_take, ← List.map_drop, ← List.map_append, ← List.eraseIdx_eq_take_drop_succ]
      · have : x ≠ r := fun hc => hn ((h1 x).2 (.inr hc))
        rw [c1.block x (by rw [hw1.1]; exact hx) (by simpa using this), hw1.1]
theorem Mem.rngEnd (h : Mem w0 (rngC b r d kE vE L left :: cs) w) : Mem w0 (mapC b d kE vE L :: cs) w := by
  obtain ⟨S1, ⟨h1, es, clock, seen, hb, hs, hk, hl, _, _⟩, h3⟩ := h.set 0 rfl
  exact h3 (mapC b d kE vE L) w (fun x => x = b) ⟨fun _ => Iff.rfl, es, clock, hb, hs, hk, hl⟩ (fun x hx => .inl ((h1 x).2 (.inl hx))) (fun _ _ _ => rfl) rfl rfl rfl
end
end Go.Proofs.Ythphonkiolmkiaa
/- The order of texts as the model compares them: plain laws. No program in sight. -/
namespace Go.Proofs.Ythphonkiolmkiaa
open Go.RowKit

theorem less_lex (x : List UInt8) : ∀ y : List UInt8, Op.bytesLess x y = decide (x < y) := by
  induction x with
  | nil => intro y; cases y <;> simp [Op.bytesLess]
  | cons a x ih =>
    intro y
    cases y with
    | nil => simp [Op.bytesLess]
    | cons b y =>
      rw [Op.bytesLess, ih y]
      simp only [List.cons_lt_cons_iff]
      by_cases h1 : a < b <;> by_cases h2 : a = b <;> by_cases h3 : x < y <;> simp [h1, h2, h3]
/-- x stands ahead of y. -/
def sLt (x y : ByteArray) : Bool := Op.bytesLess x.toList y.toList
theorem sLt_iff (x y : ByteArray) : sLt x y = true ↔ x.toList < y.toList := by
  unfold sLt; rw [less_lex]; simp
theorem sLt_irrefl (x : ByteArray) : sLt x x = false := by
  cases h : sLt x x
  · rfl
  · exact absurd ((sLt_iff x x).1 h) (List.lt_irrefl _)
theorem sLt_trans {x y z : ByteArray} (h : sLt x y = true) (k : sLt y z = true) : sLt x z = true := (sLt_iff x z).2 (List.lt_trans ((sLt_iff x y).1 h) ((sLt_iff y z).1 k))
theorem sLt_asymm {x y : ByteArray} (h : sLt x y = true) : sLt y x = false := by
  cases k : sLt y x
  · rfl
  · have := sLt_trans h k
    rw [sLt_irrefl] at this
    cases this
theorem sLt_total {x y : ByteArray} (h : sLt x y = false) (k : sLt y x = false) : x = y := by
  have h1 : ¬ x.toList < y.toList := fun e => by rw [(sLt_iff x y).2 e] at h; cases h
  have h2 : ¬ y.toList < x.toList := fun e => by rw [(sLt_iff y x).2 e] at k; cases k
  exact str_inj (List.le_antisymm (List.not_lt.1 h2) (List.not_lt.1 h1))
end Go.Proofs.Ythphonkiolmkiaa
/- Layer 14 in plain Lean: directories, files, the disk as the program keeps it. No program in sight. -/
set_option linter.unusedVariables false
set_option linter.unusedSimpArgs false
namespace Go.Proofs.Ythphonkiolmkiaa
open Go.RowKit
set_option linter.unusedSectionVars false

abbrev Dir := List (ByteArray × Nat)
structure Chg where
  cut : Bool
  off : Nat
  b : List UInt8
structure Fl where
  sure : List UInt8
  now : List UInt8
  row : List Chg
structure Mv where
  kind : Nat
  src : ByteArray
  dst : ByteArray
  file : Nat
structure Fs where
  room : Nat
  fl : List Fl
  sure : Dir
  seen : Dir
  row : List Mv
  acts : Nat
  fuse : Nat
  dead : Bool

section
variable {α β : Type} [DecidableEq α]
theorem mem_mPut {L : List (α × β)} (hn : KeysNd L) {k : α} {v : β} {p : α × β} : p ∈ mPut L k v ↔ p = (k, v) ∨ (p ∈ L ∧ p.1 ≠ k) := by
  unfold mPut
  by_cases h : L.any (fun p => decide (p.1 = k)) = true
  · rw [if_pos h, List.mem_map]
    obtain ⟨q, hq, hk⟩ := List.any_eq_true.1 h
    simp only [decide_eq_true_eq] at hk
    constructor
    · rintro ⟨x, hx, e⟩
      by_cases hxk : x.1 = k
      · rw [if_pos hxk] at e; exact .inl e.symm
      · rw [if_neg hxk] at e; subst e; exact .inr ⟨hx, hxk⟩
    · rintro (rfl | ⟨hp, hne⟩)
      · exact ⟨q, hq, by rw [if_pos hk]⟩
      · exact ⟨p, hp, by rw [if_neg hne]⟩
  · rw [if_neg h]
    have h' : ∀ x ∈ L, x.1 ≠ k := fun x hx hk => h (List.any_eq_true.2 ⟨x, hx, by simpa using hk⟩)
    simp only [List.mem_append, List.mem_singleton]
    constructor
    · rintro (hp | rfl)
      · exact .inr ⟨hp, h' p hp⟩
      · exact .inl rfl
    · rintro (rfl | ⟨hp, _⟩)
      · exact .inr rfl
      · exact .inl hp
theorem mem_mDel {L : List (α × β)} {k : α} {p : α × β} : p ∈ mDel L k ↔ p ∈ L ∧ p.1 ≠ k := by
  unfold mDel; simp
theorem mGet_some {L : List (α × β)} (hn : KeysNd L) {k : α} {v : β} : mGet L k = some v ↔ (k, v) ∈ L := by
  constructor
  · intro h
    unfold mGet at h
    obtain ⟨p, hp, e⟩ := Option.map_eq_some_iff.1 h
    have h1 := List.mem_of_find?_eq_some hp
    have h2 := List.find?_some hp
    simp only [decide_eq_true_eq] at h2
    rw [← h2, ← e]; exact h1
  · intro h
    obtain ⟨j, hj⟩ := List.getElem?_of_mem h
    exact mGet_at hn hj
theorem mGet_eq_none {L : List (α × β)} {k : α} : mGet L k = none ↔ ∀ p ∈ L, p.1 ≠ k := by
  constructor
  · intro h p hp e
    unfold mGet at h
    rw [Option.map_eq_none_iff, List.find?_eq_none] at h
    exact h p hp (by simpa using e)
  · exact mGet_none
theorem KeysNd.perm {L M : List (α × β)} (h : KeysNd L) (k : L.Perm M) : KeysNd M := (k.pairwise_iff (fun hne e => hne e.symm)).1 h
theorem KeysNd.nodup {L : List (α × β)} (h : KeysNd L) : L.Nodup := h.imp (fun hne e => hne (by rw [e]))
theorem mGet_perm {L M : List (α × β)} (h : KeysNd L) (k : L.Perm M) (a : α) : mGet L a = mGet M a := by
  cases hm : mGet M a with
  | none => rw [mGet_eq_none] at hm ⊢; exact fun p hp => hm p (k.mem_iff.1 hp)
  | some v => rw [mGet_some (h.perm k)] at hm; exact (mGet_some h).2 (k.mem_iff.2 hm)
theorem KeysNd.mPut {L : List (α × β)} (h : KeysNd L) (a : α) (v : β) : KeysNd (mPut L a v) := by
  unfold Go.Proofs.Ythphonkiolmkiaa.mPut
  by_cases hh : L.any (fun p => decide (p.1 = a)) = true
  · rw [if_pos hh]
    unfold KeysNd at *
    rw [List.pairwise_map]
    refine h.imp (fun {p q} hne => ?_)
    by_cases h1 : p.1 = a <;> by_cases h2 : q.1 = a
    · exact absurd (h1.trans h2.symm) hne
    · rw [if_pos h1, if_neg h2]; exact fun e => h2 e.symm
    · rw [if_neg h1, if_pos h2]; exact h1
    · rw [if_neg h1, if_neg h2]; exact hne
  · rw [if_neg hh]
    unfold KeysNd at *
    rw [List.pairwise_append]
    refine ⟨h, by simp, fun p hp q hq => ?_⟩
    simp at hq; subst hq
    exact fun e => hh (List.any_eq_true.2 ⟨p, hp, by simpa using e⟩)
theorem KeysNd.mDel {L : List (α × β)} (h : KeysNd L) (a : α) : KeysNd (mDel L a) := h.sublist (List.filter_sublist)
end

/-! ### directories -/
def DirOk (D : Dir) : Prop := D.Pairwise (fun p q => sLt p.1 q.1 = true)
def dPut : Dir → ByteArray → Nat → Dir
  | [], k, n => [(k, n)]
  | p :: D, k, n => if p.1 = k then (k, n) :: D else if sLt k p.1 then (k, n) :: p :: D else p :: dPut D k n
theorem sLt_ne {x y : ByteArray} (h : sLt x y = true) : x ≠ y := by
  rintro rfl
  rw [sLt_irrefl] at h; cases h
theorem DirOk.nd {D : Dir} (h : DirOk D) : KeysNd D := h.imp (fun h => sLt_ne h)
theorem mem_dPut {D : Dir} {k : ByteArray} {n : Nat} {p : ByteArray × Nat} (h : DirOk D) : p ∈ dPut D k n ↔ p = (k, n) ∨ (p ∈ D ∧ p.1 ≠ k) := by
  induction D with
  | nil => simp [dPut]
  | cons q D ih =>
    have hq := (List.pairwise_cons.1 h).1
    have h' : DirOk D := (List.pairwise_cons.1 h).2
    unfold dPut
    by_cases h1 : q.1 = k
    · rw [if_pos h1]
      simp only [List.mem_cons]
      constructor
      · rintro (rfl | hp)
        · exact .inl rfl
        · exact .inr ⟨.inr hp, fun e => sLt_ne (hq p hp) (h1.trans e.symm)⟩
      · rintro (rfl | ⟨rfl | hp, hne⟩)
        · exact .inl rfl
        · exact absurd h1 hne
        · exact .inr hp
    · rw [if_neg h1]
      by_cases h2 : sLt k q.1 = true
      · rw [if_pos h2]
        simp only [List.mem_cons]
        constructor
        · rintro (rfl | rfl | hp)
          · exact .inl rfl
          · exact .inr ⟨.inl rfl, h1⟩
          · exact .inr ⟨.inr hp, fun e => sLt_ne (sLt_trans h2 (hq p hp)) e.symm⟩
        · rintro (rfl | ⟨rfl | hp, hne⟩)
          · exact .inl rfl
          · exact .inr (.inl rfl)
          · exact .inr (.inr hp)
      · rw [if_neg h2]
        simp only [List.mem_cons, ih h']
        constructor
        · rintro (rfl | rfl | ⟨hp, hne⟩)
          · exact .inr ⟨.inl rfl, h1⟩
          · exact .inl rfl
          · exact .inr ⟨.inr hp, hne⟩
        · rintro (rfl | ⟨rfl | hp, hne⟩)
          · exact .inr (.inl rfl)
          · exact .inl rfl
          · exact .inr (.inr ⟨hp, hne⟩)
theorem DirOk.dPut {D : Dir} (h : DirOk D) (k : ByteArray) (n : Nat) : DirOk (dPut D k n) := by
  induction D with
  | nil => simp [Go.Proofs.Ythphonkiolmkiaa.dPut, DirOk]
  | cons q D ih =>
    have hq := (List.pairwise_cons.1 h).1
    have h' : DirOk D := (List.pairwise_cons.1 h).2
    unfold Go.Proofs.Ythphonkiolmkiaa.dPut
    by_cases h1 : q.1 = k
    · rw [if_pos h1]
      exact List.pairwise_cons.2 ⟨fun p hp => h1 ▸ hq p hp, h'⟩
    · rw [if_neg h1]
      by_cases h2 : sLt k q.1 = true
      · rw [if_pos h2]
        refine List.pairwise_cons.2 ⟨fun p hp => ?_, h⟩
        rcases List.mem_cons.1 hp with rfl | hp
        · exact h2
        · exact sLt_trans h2 (hq p hp)
      · rw [if_neg h2]
        refine List.pairwise_cons.2 ⟨fun p hp => ?_, ih h'⟩
        rcases (mem_dPut h').1 hp with rfl | ⟨hp, _⟩
        · by_cases h3 : sLt q.1 k = true
          · exact h3
          · exact absurd (sLt_total (by simpa using h3) (by simpa using h2)) h1
        · exact hq p hp
theorem DirOk.del {D : Dir} (h : DirOk D) (k : ByteArray) : DirOk (mDel D k) := h.sublist List.filter_sublist
theorem put_perm {L D : Dir} (h : DirOk D) (k : L.Perm D) (s : ByteArray) (n : Nat) : (mPut L s n).Perm (dPut D s n) := by
  have hL := h.nd.perm k.symm
  refine (List.perm_ext_iff_of_nodup (hL.mPut s n).nodup (h.dPut s n).nd.nodup).2 (fun p => ?_)
  rw [mem_mPut hL, mem_dPut h, k.mem_iff]
theorem del_perm {L D : Dir} (k : L.Perm D) (s : ByteArray) : (mDel L s).Perm (mDel D s) := k.filter _
theorem dPut_len_le {D : Dir} (k : ByteArray) (n : Nat) : (dPut D k n).length ≤ D.length + 1 := by
  induction D with
  | nil => simp [dPut]
  | cons q D ih =>
    unfold dPut
    split
    · simp
    · split <;> simp <;> omega
theorem dPut_len {D : Dir} (h : DirOk D) {k : ByteArray} (n : Nat) (hk : mGet D k = none) : (dPut D k n).length = D.length + 1 := by
  have := (put_perm h (List.Perm.refl D) k n).length_eq
  rw [← this, mPut_new (mGet_eq_none.1 hk)]; simp
theorem mDel_len {D : Dir} (h : KeysNd D) {k : ByteArray} {n : Nat} (hk : mGet D k = some n) : (mDel D k).length + 1 = D.length := by
  obtain ⟨j, hj⟩ := List.getElem?_of_mem ((mGet_some h).1 hk)
  have hl := (List.getElem?_eq_some_iff.1 hj).1
  rw [mDel_at h hj, List.length_eraseIdx]
  rw [if_pos hl]; omega
/-- The names of a directory, in their order. -/
def dNames (D : Dir) : List ByteArray := D.map (·.1)
theorem lex_le_trans (x y z : List UInt8) (h : x ≤ y) (k : y ≤ z) : x ≤ z := List.le_trans h k
theorem names_sorted {L D : Dir} (h : DirOk D) (k : L.Perm D) : ((L.map (fun p => p.1.toList)).mergeSort fun x y => decide (x ≤ y)) = D.map (fun p => p.1.toList) := by
  refine List.Perm.eq_of_pairwise (le := fun x y => decide (x ≤ y) = true) ?_ ?_ ?_ ?_
  · intro a b _ _ h1 h2
    simp only [decide_eq_true_eq] at h1 h2
    exact List.le_antisymm h1 h2
  · refine List.pairwise_mergeSort (fun a b c h1 h2 => ?_) (fun a b => ?_) _
    · simp only [decide_eq_true_eq] at *; exact List.le_trans h1 h2
    · simp only [Bool.or_eq_true, decide_eq_true_eq]; exact List.le_total a b
  · rw [List.pairwise_map]
    refine h.imp (fun {p q} hlt => ?_)
    simp only [decide_eq_true_eq]
    exact List.le_of_lt ((sLt_iff _ _).1 hlt)
  · exact (List.mergeSort_perm _ _).trans (k.map _)
end Go.Proofs.Ythphonkiolmkiaa
/- Words that the proofs of this seat share: append of zeros as a step; variables of six cells. -/
namespace Go.Proofs.Ythphonkiolmkiaa
open Go.RowKit
section
variable {P : Program} {ops : Array Oper} {rest : List Oper} {o : Oper} {a : Act} {Q : Exit → Act → World → Prop} {w : World}
/-- append(nil, n zeros), behind 'at_builtin'. -/
theorem append_zeros (hgd : o.guard = none) (s x : Operand) (t ti e : TypeId) (z : Value) (size bytes : Nat) (ho : o.op = .call { callee := .builtin .append, args := #[s, x], argTypes := #[t, ti] })
    (ht : P.underlying t = some (.slice e)) (hti : P.underlying ti = some (.int .i64)) (hinfo : (P.info? e).map (fun i => (i.zero, i.size, i.bytes)) = some (some z, size, bytes)) (hzs : z.cells.size = size) (hby : 0 < bytes) (base : Nat) (n : Nat) (hn0 : 0 < n)
    (hs : a.eval s = .slice none 0 0) (hx : a.eval x = .int .i64 n) (hb : n * bytes ≤ 281474976710656) (hn : n ≤ 281474976710656) (hbase : base ≤ w.heap.size)
    (h : ∀ w' cap cs, App w' base e size (.slice (some ⟨w.heap.size, 0, none⟩) n cap) n cs → Bl w w' → n ≤ cap → wpList P ops Q rest (a.put o.dst (.slice (some ⟨w.heap.size, 0, none⟩) n cap)) w') : wpList P ops Q (o :: rest) a w := by
  refine wpList_plain hgd fun K hK => ?_
  obtain ⟨v', w', cap, hr, rfl, ⟨cs, h2⟩, h3, h4⟩ := run_append_zeros (P := P) w t ti o.type e z size bytes ht hti hinfo hzs hby base n hn0 hb hn hbase
  unfold Oper.wp execOp
  simp only [ho, resolve, invoke, builtin, Sem.run_bind, Sem.run_pure, Result.andThen_ok, List.map_toArray, List.map_cons, List.map_nil, hs, hx, hr]
  exact hK _ _ (h w' cap cs h2 h3 h4)
end
theorem Ob.all6 {w : World} {g : Nat} {T : TypeId} {a0 a1 a2 a3 a4 a5 : Value} (h : Ob w g T #[a0, a1, a2, a3, a4, a5]) :
    w.cell? ⟨g, 0, none⟩ = some a0 ∧ w.cell? ⟨g, 1, none⟩ = some a1 ∧ w.cell? ⟨g, 2, none⟩ = some a2 ∧ w.cell? ⟨g, 3, none⟩ = some a3 ∧ w.cell? ⟨g, 4, none⟩ = some a4 ∧ w.cell? ⟨g, 5, none⟩ = some a5 ∧
    w.frozen? ⟨g, 0, none⟩ = false ∧ w.frozen? ⟨g, 1, none⟩ = false ∧ w.frozen? ⟨g, 2, none⟩ = false ∧ w.frozen? ⟨g, 3, none⟩ = false ∧ w.frozen? ⟨g, 4, none⟩ = false ∧ w.frozen? ⟨g, 5, none⟩ = false :=
  ⟨h.cell 0 rfl, h.cell 1 rfl, h.cell 2 rfl, h.cell 3 rfl, h.cell 4 rfl, h.cell 5 rfl, h.free 0, h.free 1, h.free 2, h.free 3, h.free 4, h.free 5⟩
theorem Ob.set6 {w : World} {g : Nat} {T : TypeId} {a0 a1 a2 a3 a4 a5 : Value} (h : Ob w g T #[a0, a1, a2, a3, a4, a5]) (b0 b1 b2 b3 b4 b5 : Value) :
    Ob ((((((w.setCell ⟨g, 0, none⟩ b0).setCell ⟨g, 1, none⟩ b1).setCell ⟨g, 2, none⟩ b2).setCell ⟨g, 3, none⟩ b3).setCell ⟨g, 4, none⟩ b4).setCell ⟨g, 5, none⟩ b5) g T #[b0, b1, b2, b3, b4, b5] ∧
    Ch [g] w ((((((w.setCell ⟨g, 0, none⟩ b0).setCell ⟨g, 1, none⟩ b1).setCell ⟨g, 2, none⟩ b2).setCell ⟨g, 3, none⟩ b3).setCell ⟨g, 4, none⟩ b4).setCell ⟨g, 5, none⟩ b5) := by
  refine ⟨?_, (((((Ch.put w g 0 b0).same (Ch.put _ g 1 b1)).same (Ch.put _ g 2 b2)).same (Ch.put _ g 3 b3)).same (Ch.put _ g 4 b4)).same (Ch.put _ g 5 b5)⟩
  have := (((((h.set 0 b0).set 1 b1).set 2 b2).set 3 b3).set 4 b4).set 5 b5
  simpa using this
/-- What was laid down by a literal of values reads so. -/
theorem row_lit {α : Type} (f : α → Value) (w : World) (xs : List α) (cs : Array Value) (e : TypeId) (h : cs = (xs.map f).toArray) : Rd (w.alloc (.cells cs e)) (some ⟨w.heap.size, 0, none⟩) (xs.map f) := by
  subst h
  have := rd_of_block (heap_alloc_new w (.cells (xs.map f).toArray e)) 0 xs.length
  rwa [List.drop_zero, List.take_of_length_le (by simp)] at this
end Go.Proofs.Ythphonkiolmkiaa
/- Words that the proofs of this seat share: a text's bytes made. -/
set_option linter.unusedVariables false
set_option linter.unusedSimpArgs false
namespace Go.Proofs.Ythphonkiolmkiaa
open Go.RowKit
/-- A text's bytes. -/
def tb (s : ByteArray) : List UInt8 := s.data.toList
theorem tb_len (s : ByteArray) : (tb s).length = s.size := by simp [tb]
theorem tb_mk (l : List UInt8) : tb ⟨l.toArray⟩ = l := rfl
theorem tb_inj {x y : ByteArray} (h : tb x = tb y) : x = y := by
  cases x; cases y
  simp only [tb] at h
  rw [Array.toList_inj.1 h]
theorem bytes_world_bl (w : World) (e : TypeId) (s : ByteArray) : Bl w (Lib.bytesWorld w e s) := by
  refine ⟨?_, ?_, ?_, by rw [Lib.bytesWorld_size]; omega, fun j hj => Lib.bytesWorld_at_old w e s j hj⟩
  all_goals simp [Lib.bytesWorld, World.freeze, World.alloc, World.drew, -World.alloc_eq, -World.drew_eq]
theorem bytes_world_rd (w : World) (e : TypeId) (s : ByteArray) : Rd (Lib.bytesWorld w e s) (some ⟨w.heap.size, 0, none⟩) ((tb s).map bv) := fun _ => by
  refine ⟨w.heap.size, 0, rfl, fun j v hv => ?_⟩
  have hj : j < s.size := by
    have := (List.getElem?_eq_some_iff.1 hv).1
    simpa [tb_len] using this
  rw [Nat.zero_add, Lib.bytesWorld_cell w e s j hj]
  have hj2 : j < s.data.toList.length := by simpa using hj
  simp only [tb, List.getElem?_map, List.getElem?_eq_getElem hj2, Option.map_some, Option.some.injEq] at hv
  rw [← hv, bv]
  congr 2
  simp only [List.getD_eq_getElem?_getD, List.getElem?_eq_getElem hj2, Option.getD_some]
section
variable {P : Program} {ops : Array Oper} {rest : List Oper} {o : Oper} {a : Act} {Q : Exit → Act → World → Prop} {w : World}
/-- []byte(s). -/
theorem strb_step (hgd : o.guard = none) (s d e : TypeId) (x : Operand) (ho : o.op = .convert s d x) {u : TypeDesc} (hs : P.underlying s = some u) (hd : P.underlying d = some (.slice e)) (he : P.underlying e = some (.int .u8)) {t : ByteArray} (hx : a.eval x = .string t)
    (h : ∀ A c w', Rd w' A ((tb t).map bv) → Bl w w' → wpList P ops Q rest (a.put o.dst (.slice A (tb t).length c)) w') : wpList P ops Q (o :: rest) a w := by
  refine wpList_plain hgd fun K hK => ?_
  have hr := Lib.run_convert_string_bytes (P := P) w s d e t hs hd he
  unfold Oper.wp
  simp only [execOp, ho, hx]
  simp [hr, Result.andThen]
  have := h (some ⟨w.heap.size, 0, none⟩) (grownCap w t.size 0 e) _ (bytes_world_rd w e t) (bytes_world_bl w e t)
  rw [tb_len] at this
  exact hK _ _ this
/-- string(b). -/
theorem conv_step (hgd : o.guard = none) (s d e : TypeId) (x : Operand) (ho : o.op = .convert s d x) (hs : P.underlying s = some (.slice e)) (he : P.underlying e = some (.int .u8)) (hd : P.underlying d = some .string)
    {A : Option Addr} {c n : Nat} {xs : List UInt8} (hx : a.eval x = .slice A n c) (hn : n = xs.length) (hr : Rd w A (xs.map bv)) (h : wpList P ops Q rest (a.put o.dst (.string ⟨xs.toArray⟩)) w) : wpList P ops Q (o :: rest) a w := by
  subst hn
  refine wpList_plain hgd fun K hK => ?_
  have hr := conv_bytes (P := P) w s e d hs he hd A c xs hr
  unfold Oper.wp
  simp only [execOp, ho, hx]
  simp [hr, Result.andThen]
  exact hK _ _ h
end
end Go.Proofs.Ythphonkiolmkiaa
/- Layer 14 in plain Lean: what is done to a disk. No program in sight. -/
set_option linter.unusedVariables false
set_option linter.unusedSimpArgs false
namespace Go.Proofs.Ythphonkiolmkiaa
open Go.RowKit

abbrev M0 : Nat := 1048576
def chDo (s : List UInt8) (c : Chg) : List UInt8 := if c.cut then s.take c.off else s.take c.off ++ c.b ++ s.drop (c.off + c.b.length)
structure ChOk (s : List UInt8) (c : Chg) : Prop where
  off : c.off ≤ s.length
  end_ : c.off + c.b.length ≤ M0
  cut : c.cut = true → c.b = []
def rowOk : List UInt8 → List Chg → List UInt8 → Prop
  | s, [], n => s = n
  | s, c :: r, n => ChOk s c ∧ rowOk (chDo s c) r n
theorem chDo_len {s : List UInt8} {c : Chg} (h : ChOk s c) (hs : s.length ≤ M0) : (chDo s c).length ≤ M0 := by
  have := h.off; have := h.end_
  unfold chDo
  split <;> simp only [List.length_append, List.length_take, List.length_drop] <;> omega
theorem rowOk_take {s n : List UInt8} {r : List Chg} (h : rowOk s r n) (k : Nat) : rowOk s (r.take k) ((r.take k).foldl chDo s) := by
  induction r generalizing s k with
  | nil => simp [rowOk]
  | cons c r ih =>
    cases k with
    | zero => simp [rowOk]
    | succ k => exact ⟨h.1, ih h.2 k⟩
theorem rowOk_all {s n : List UInt8} {r : List Chg} (h : rowOk s r n) : r.foldl chDo s = n := by
  induction r generalizing s with
  | nil => exact h
  | cons c r ih => exact ih h.2
theorem rowOk_len {s n : List UInt8} {r : List Chg} (h : rowOk s r n) (hs : s.length ≤ M0) : n.length ≤ M0 := by
  induction r generalizing s with
  | nil => rw [← show s = n from h]; exact hs
  | cons c r ih => exact ih h.2 (chDo_len h.1 hs)
theorem rowOk_snoc {s n : List UInt8} {r : List Chg} {c : Chg} (h : rowOk s r n) (hc : ChOk n c) : rowOk s (r ++ [c]) (chDo n c) := by
  induction r generalizing s with
  | nil => have : s = n := h; subst this; exact ⟨hc, rfl⟩
  | cons c' r ih => exact ⟨h.1, ih h.2⟩
theorem rowOk_at {s n : List UInt8} {r : List Chg} (h : rowOk s r n) {k : Nat} {c : Chg} (hk : r[k]? = some c) : ChOk ((r.take k).foldl chDo s) c := by
  induction r generalizing s k with
  | nil => simp at hk
  | cons c' r ih =>
    cases k with
    | zero => simp at hk; subst hk; exact h.1
    | succ k => exact ih h.2 (by simpa using hk)
structure FlOk (x : Fl) : Prop where
  sure : x.sure.length ≤ M0
  row : rowOk x.sure x.row x.now
theorem FlOk.now {x : Fl} (h : FlOk x) : x.now.length ≤ M0 := rowOk_len h.row h.sure

/-! ### the directory's row -/
def dirDo (D : Dir) (m : Mv) : Dir :=
  if m.kind = 0 then dPut D m.dst m.file
  else if m.kind = 1 then dPut (mDel D m.src) m.dst ((mGet D m.src).getD 0)
  else if m.kind = 2 then mDel D m.src else D
structure DirIn (N : Nat) (D : Dir) : Prop where
  ok : DirOk D
  len : D.length ≤ 64
  pos : ∀ p ∈ D, 1 ≤ p.2 ∧ p.2 ≤ N
def mvOk (N : Nat) (D : Dir) (m : Mv) : Prop :=
  (m.kind = 0 ∧ 1 ≤ m.file ∧ m.file ≤ N ∧ D.length < 64) ∨ (m.kind = 1 ∧ ∃ n, mGet D m.src = some n) ∨ m.kind = 2
def movesOk (N : Nat) : Dir → List Mv → Dir → Prop
  | s, [], n => s = n
  | s, c :: r, n => mvOk N s c ∧ movesOk N (dirDo s c) r n
theorem DirIn.mono {N M : Nat} {D : Dir} (h : DirIn N D) (k : N ≤ M) : DirIn M D := ⟨h.ok, h.len, fun p hp => ⟨(h.pos p hp).1, by have := (h.pos p hp).2; omega⟩⟩
theorem mvOk.mono {N M : Nat} {D : Dir} {m : Mv} (h : mvOk N D m) (k : N ≤ M) : mvOk M D m := by
  unfold mvOk at *
  rcases h with ⟨h1, h2, h3, h4⟩ | h | h
  · exact .inl ⟨h1, h2, by omega, h4⟩
  · exact .inr (.inl h)
  · exact .inr (.inr h)
theorem movesOk.mono {N M : Nat} {s n : Dir} {r : List Mv} (h : movesOk N s r n) (k : N ≤ M) : movesOk M s r n := by
  induction r generalizing s with
  | nil => exact h
  | cons c r ih => exact ⟨h.1.mono k, ih h.2⟩
theorem DirIn.put {N : Nat} {D : Dir} (h : DirIn N D) {k : ByteArray} {n : Nat} (h1 : 1 ≤ n) (h2 : n ≤ N) (hl : D.length < 64) : DirIn N (dPut D k n) :=
  ⟨h.ok.dPut k n, by have := dPut_len_le (D := D) k n; omega, fun p hp => by
    rcases (mem_dPut h.ok).1 hp with rfl | ⟨hp, _⟩
    · exact ⟨h1, h2⟩
    · exact h.pos p hp⟩
theorem DirIn.del {N : Nat} {D : Dir} (h : DirIn N D) (k : ByteArray) : DirIn N (mDel D k) :=
  ⟨h.ok.del k, Nat.le_trans (List.length_filter_le _ _) h.len, fun p hp => h.pos p (mem_mDel.1 hp).1⟩
theorem dirDo_in {N : Nat} {D : Dir} {m : Mv} (h : DirIn N D) (k : mvOk N D m) : DirIn N (dirDo D m) := by
  unfold dirDo
  rcases k with ⟨h1, h2, h3, h4⟩ | ⟨h1, n, hn⟩ | h1
  · rw [if_pos h1]; exact h.put h2 h3 h4
  · rw [if_neg (by omega), if_pos h1, hn]
    have hp := h.pos _ ((mGet_some h.ok.nd).1 hn)
    have hl := mDel_len h.ok.nd hn
    have := h.len
    exact (h.del m.src).put hp.1 hp.2 (by omega)
  · rw [if_neg (by omega), if_neg (by omega), if_pos h1]; exact h.del m.src
theorem movesOk_take {N : Nat} {s n : Dir} {r : List Mv} (h : movesOk N s r n) (k : Nat) : movesOk N s (r.take k) ((r.take k).foldl dirDo s) := by
  induction r generalizing s k with
  | nil => simp [movesOk]
  | cons c r ih =>
    cases k with
    | zero => simp [movesOk]
    | succ k => exact ⟨h.1, ih h.2 k⟩
theorem movesOk_all {N : Nat} {s n : Dir} {r : List Mv} (h : movesOk N s r n) : r.foldl dirDo s = n := by
  induction r generalizing s with
  | nil => exact h
  | cons c r ih => exact ih h.2
theorem movesOk_in {N : Nat} {s n : Dir} {r : List Mv} (h : movesOk N s r n) (hs : DirIn N s) : DirIn N n := by
  induction r generalizing s with
  | nil => rw [← show s = n from h]; exact hs
  | cons c r ih => exact ih h.2 (dirDo_in hs h.1)
theorem movesOk_snoc {N : Nat} {s n : Dir} {r : List Mv} {c : Mv} (h : movesOk N s r n) (hc : mvOk N n c) : movesOk N s (r ++ [c]) (dirDo n c) := by
  induction r generalizing s with
  | nil => have : s = n := h; subst this; exact ⟨hc, rfl⟩
  | cons c' r ih => exact ⟨h.1, ih h.2⟩
theorem movesOk_at {N : Nat} {s n : Dir} {r : List Mv} (h : movesOk N s r n) {k : Nat} {c : Mv} (hk : r[k]? = some c) : mvOk N ((r.take k).foldl dirDo s) c := by
  induction r generalizing s k with
  | nil => simp at hk
  | cons c' r ih =>
    cases k with
    | zero => simp at hk; subst hk; exact h.1
    | succ k => exact ih h.2 (by simpa using hk)

/-! ### the disk -/
def flAt (fl : List Fl) (n : Nat) : Fl := (fl[n - 1]?).getD ⟨[], [], []⟩
def usedOf (fl : List Fl) (D : Dir) : Nat := (D.map (fun p => (flAt fl p.2).now.length)).sum
def Fs.used (S : Fs) : Nat := usedOf S.fl S.seen
structure FsOk (S : Fs) : Prop where
  room : S.room ≤ M0
  files : ∀ x ∈ S.fl, FlOk x
  sure : DirIn S.fl.length S.sure
  moves : movesOk S.fl.length S.sure S.row S.seen
  rowl : S.row.length ≤ S.acts
  frow : ∀ x ∈ S.fl, x.row.length ≤ S.acts
  flen : S.fl.length ≤ S.acts + 64
  fuse : S.fuse < 9223372036854775808
theorem FsOk.seen {S : Fs} (h : FsOk S) : DirIn S.fl.length S.seen := movesOk_in h.moves h.sure
theorem FsOk.file {S : Fs} (h : FsOk S) {s : ByteArray} {n : Nat} (hn : mGet S.seen s = some n) : 1 ≤ n ∧ ∃ x, S.fl[n - 1]? = some x ∧ FlOk x ∧ flAt S.fl n = x := by
  have hp := h.seen.pos _ ((mGet_some h.seen.ok.nd).1 hn)
  have hl : n - 1 < S.fl.length := by have := hp.1; have := hp.2; simp only at *; omega
  refine ⟨hp.1, S.fl[n - 1], by simp [hl], h.files _ (List.getElem_mem hl), ?_⟩
  unfold flAt; simp [hl]
theorem le_sum_of_mem : ∀ {l : List Nat} {x : Nat}, x ∈ l → x ≤ l.sum
  | [], _, h => by cases h
  | a :: l, x, h => by
    rw [List.sum_cons]
    rcases List.mem_cons.1 h with rfl | h
    · omega
    · have := le_sum_of_mem h; omega
theorem used_ge {S : Fs} (h : FsOk S) {s : ByteArray} {n : Nat} (hn : mGet S.seen s = some n) : (flAt S.fl n).now.length ≤ S.used :=
  le_sum_of_mem (List.mem_map.2 ⟨(s, n), (mGet_some h.seen.ok.nd).1 hn, rfl⟩)
theorem sum_le : ∀ (l : List Nat) (b : Nat), (∀ x ∈ l, x ≤ b) → l.sum ≤ l.length * b
  | [], b, _ => by simp
  | a :: l, b, h => by
    have h1 := h a (by simp)
    have h2 := sum_le l b (fun x hx => h x (by simp [hx]))
    rw [List.sum_cons, List.length_cons, Nat.add_mul]; omega
theorem used_le {N : Nat} {fl : List Fl} {D : Dir} (hf : ∀ x ∈ fl, FlOk x) (h : DirIn N D) : usedOf fl D ≤ 64 * M0 := by
  have h1 := sum_le (D.map (fun p => (flAt fl p.2).now.length)) M0 (fun x hx => by
    obtain ⟨p, _, rfl⟩ := List.mem_map.1 hx
    unfold flAt
    cases e : fl[p.2 - 1]? with
    | none => simp
    | some y => exact (hf y (List.mem_of_getElem? e)).now)
  have h2 := h.len
  rw [List.length_map] at h1
  have : D.length * M0 ≤ 64 * M0 := Nat.mul_le_mul_right _ h2
  exact Nat.le_trans h1 this
def fails (S : Fs) : Fs := { S with acts := S.acts + 1, fuse := S.fuse - 1, dead := if 0 < S.fuse then decide (S.fuse = 1) else S.dead }
def endE (S : Fs) : Fs × Nat := (S, if S.dead then 13 else 0)
def turn (S : Fs) (m : Mv) : Fs := { S with seen := dirDo S.seen m, row := S.row ++ [m] }
def change (S : Fs) (i : Nat) (c : Chg) : Fs := { S with fl := S.fl.modify i (fun x => { x with now := chDo x.now c, row := x.row ++ [c] }) }
def chOfName (c : UInt8) : Bool := (97 ≤ c && c ≤ 122) || (48 ≤ c && c ≤ 57) || c == 46 || c == 45
def isNm (s : ByteArray) : Bool := (tb s).all chOfName && decide (1 ≤ s.size) && decide (s.size ≤ 32)
def getE (S : Fs) (s : ByteArray) : Nat := if S.dead then 13 else if (mGet S.seen s).isSome then 0 else 7
def getN (S : Fs) (s : ByteArray) : Nat := (mGet S.seen s).getD 0
def fsCreate (S : Fs) (s : ByteArray) : Fs × Nat :=
  if S.dead then (S, 13) else if isNm s = false then (S, 2) else if (mGet S.seen s).isSome then (S, 8) else if 64 ≤ S.seen.length then (S, 3)
  else endE (fails (turn { S with fl := S.fl ++ [⟨[], [], []⟩] } ⟨0, .empty, s, S.fl.length + 1⟩))
def fsAppend (S : Fs) (s : ByteArray) (b : List UInt8) : Fs × Nat :=
  if getE S s ≠ 0 then (S, getE S s) else if 0 < b.length ∧ S.room < b.length + S.used then (S, 9)
  else endE (fails (change S (getN S s - 1) ⟨false, (flAt S.fl (getN S s)).now.length, b⟩))
def fsWrite (S : Fs) (s : ByteArray) (at_ : Int) (b : List UInt8) : Fs × Nat :=
  if getE S s ≠ 0 then (S, getE S s) else if at_ < 0 ∨ ((flAt S.fl (getN S s)).now.length : Int) < at_ then (S, 2)
  else if (flAt S.fl (getN S s)).now.length < b.length + at_.toNat ∧ S.room + (flAt S.fl (getN S s)).now.length < b.length + at_.toNat + S.used then (S, 9)
  else endE (fails (change S (getN S s - 1) ⟨false, at_.toNat, b⟩))
def fsCut (S : Fs) (s : ByteArray) (at_ : Int) : Fs × Nat :=
  if getE S s ≠ 0 then (S, getE S s) else if at_ < 0 ∨ ((flAt S.fl (getN S s)).now.length : Int) < at_ then (S, 2)
  else endE (fails (change S (getN S s - 1) ⟨true, at_.toNat, []⟩))
def fsRename (S : Fs) (s t : ByteArray) : Fs × Nat :=
  if getE S s ≠ 0 then (S, getE S s) else if isNm t = false then (S, 2)
  else endE (fails (turn S ⟨1, s, t, 0⟩))
def fsRemove (S : Fs) (s : ByteArray) : Fs × Nat :=
  if getE S s ≠ 0 then (S, getE S s) else endE (fails (turn S ⟨2, s, .empty, 0⟩))
def fsSync (S : Fs) (s : ByteArray) : Fs × Nat :=
  if getE S s ≠ 0 then (S, getE S s) else if (fails S).dead then (fails S, 13)
  else ({ fails S with fl := S.fl.modify (getN S s - 1) (fun x => { x with sure := x.now, row := [] }) }, 0)
def fsSyncDir (S : Fs) : Fs × Nat :=
  if S.dead then (S, 13) else if (fails S).dead then (fails S, 13) else ({ fails S with sure := S.seen, row := [] }, 0)
def fsArm (S : Fs) (n : Int) : Fs × Nat := if S.dead then (S, 13) else if n < 0 then (S, 2) else ({ S with fuse := n.toNat }, 0)
def fsRead (S : Fs) (s : ByteArray) (at_ n : Int) : List UInt8 × Nat :=
  if getE S s ≠ 0 then ([], getE S s) else if at_ < 0 ∨ ((flAt S.fl (getN S s)).now.length : Int) < at_ ∨ n < 0 then ([], 2)
  else (((flAt S.fl (getN S s)).now.drop at_.toNat).take n.toNat, 0)
def fsSize (S : Fs) (s : ByteArray) : Nat × Nat := if getE S s ≠ 0 then (0, getE S s) else ((flAt S.fl (getN S s)).now.length, 0)
def fsNames (S : Fs) : List ByteArray := if S.dead then [] else dNames S.seen
def fsUsed (S : Fs) : Nat := if S.dead then 0 else S.used
def fsRoom (S : Fs) : Nat := if S.dead then 0 else S.room

/-! ### what holds stays -/
theorem fails_ok {S : Fs} (h : FsOk S) : FsOk (fails S) :=
  ⟨h.room, h.files, h.sure, h.moves, Nat.le_succ_of_le h.rowl, fun x hx => Nat.le_succ_of_le (h.frow x hx), by have := h.flen; show S.fl.length ≤ S.acts + 1 + 64; omega, by have := h.fuse; show S.fuse - 1 < _; omega⟩
theorem turn_ok {S : Fs} (h : FsOk S) {m : Mv} (hm : mvOk S.fl.length S.seen m) : FsOk (fails (turn S m)) :=
  ⟨h.room, h.files, h.sure, movesOk_snoc h.moves hm, by have := h.rowl; show (S.row ++ [m]).length ≤ S.acts + 1; simp; omega, fun x hx => Nat.le_succ_of_le (h.frow x hx), by have := h.flen; show S.fl.length ≤ S.acts + 1 + 64; omega, by have := h.fuse; show S.fuse - 1 < _; omega⟩
theorem create_ok {S : Fs} (h : FsOk S) {s : ByteArray} (hl : S.seen.length < 64) : FsOk (fails (turn { S with fl := S.fl ++ [⟨[], [], []⟩] } ⟨0, .empty, s, S.fl.length + 1⟩)) := by
  have e : (S.fl ++ [(⟨[], [], []⟩ : Fl)]).length = S.fl.length + 1 := by simp
  refine ⟨h.room, fun x hx => ?_, ?_, ?_, ?_, fun x hx => ?_, ?_, ?_⟩
  · rcases List.mem_append.1 hx with hx | hx
    · exact h.files x hx
    · simp at hx; subst hx; exact ⟨by simp, rfl⟩
  · show DirIn (S.fl ++ [(⟨[], [], []⟩ : Fl)]).length S.sure
    rw [e]; exact h.sure.mono (by omega)
  · show movesOk (S.fl ++ [(⟨[], [], []⟩ : Fl)]).length S.sure (S.row ++ [⟨0, .empty, s, S.fl.length + 1⟩]) (dirDo S.seen ⟨0, .empty, s, S.fl.length + 1⟩)
    rw [e]
    exact movesOk_snoc (h.moves.mono (by omega)) (.inl ⟨rfl, by simp, by simp, hl⟩)
  · have := h.rowl
    show (S.row ++ [_]).length ≤ S.acts + 1
    simp; omega
  · rcases List.mem_append.1 hx with hx | hx
    · exact Nat.le_succ_of_le (h.frow x hx)
    · simp at hx; subst hx; simp
  · have := h.flen
    show (S.fl ++ [_]).length ≤ S.acts + 1 + 64
    rw [e]; omega
  · have := h.fuse; show S.fuse - 1 < _; omega
theorem mem_modify {α : Type} {l : List α} {i : Nat} {f : α → α} {x : α} (h : x ∈ l.modify i f) : x ∈ l ∨ ∃ y, l[i]? = some y ∧ x = f y := by
  obtain ⟨j, hj⟩ := List.getElem?_of_mem h
  rw [List.getElem?_modify] at hj
  by_cases e : i = j
  · subst e
    simp only [if_true] at hj
    cases hl : l[i]? with
    | none => rw [hl] at hj; cases hj
    | some y => rw [hl] at hj; right; exact ⟨y, rfl, by simpa using hj.symm⟩
  · left
    cases hl : l[j]? with
    | none => rw [hl] at hj; cases hj
    | some y => rw [hl] at hj; simp [e] at hj; subst hj; exact List.mem_of_getElem? hl
theorem change_ok {S : Fs} (h : FsOk S) {i : Nat} {c : Chg} (hc : ∀ x, S.fl[i]? = some x → ChOk x.now c) : FsOk (fails (change S i c)) := by
  refine ⟨h.room, fun x hx => ?_, ?_, ?_, Nat.le_succ_of_le h.rowl, fun x hx => ?_, ?_, by have := h.fuse; show S.fuse - 1 < _; omega⟩
  · rcases mem_modify hx with hx | ⟨y, hy, rfl⟩
    · exact h.files x hx
    · have hf := h.files y (List.mem_of_getElem? hy)
      exact ⟨hf.sure, rowOk_snoc hf.row (hc y hy)⟩
  · show DirIn (S.fl.modify i _).length S.sure
    rw [List.length_modify]; exact h.sure
  · show movesOk (S.fl.modify i _).length S.sure S.row S.seen
    rw [List.length_modify]; exact h.moves
  · rcases mem_modify hx with hx | ⟨y, hy, rfl⟩
    · exact Nat.le_succ_of_le (h.frow x hx)
    · have := h.frow y (List.mem_of_getElem? hy)
      show (y.row ++ [c]).length ≤ S.acts + 1
      simp; omega
  · have := h.flen
    show (S.fl.modify i _).length ≤ S.acts + 1 + 64
    rw [List.length_modify]; omega
theorem sync_ok {S : Fs} (h : FsOk S) (i : Nat) : FsOk { fails S with fl := S.fl.modify i (fun x => { x with sure := x.now, row := [] }) } := by
  refine ⟨h.room, fun x hx => ?_, ?_, ?_, Nat.le_succ_of_le h.rowl, fun x hx => ?_, ?_, by have := h.fuse; show S.fuse - 1 < _; omega⟩
  · rcases mem_modify hx with hx | ⟨y, hy, rfl⟩
    · exact h.files x hx
    · exact ⟨(h.files y (List.mem_of_getElem? hy)).now, rfl⟩
  · show DirIn (S.fl.modify i _).length S.sure
    rw [List.length_modify]; exact h.sure
  · show movesOk (S.fl.modify i _).length S.sure S.row S.seen
    rw [List.length_modify]; exact h.moves
  · rcases mem_modify hx with hx | ⟨y, hy, rfl⟩
    · exact Nat.le_succ_of_le (h.frow x hx)
    · simp
  · have := h.flen
    show (S.fl.modify i _).length ≤ S.acts + 1 + 64
    rw [List.length_modify]; omega
theorem syncDir_ok {S : Fs} (h : FsOk S) : FsOk { fails S with sure := S.seen, row := [] } :=
  ⟨h.room, h.files, h.seen, rfl, by simp, fun x hx => Nat.le_succ_of_le (h.frow x hx), by have := h.flen; show S.fl.length ≤ S.acts + 1 + 64; omega, by have := h.fuse; show S.fuse - 1 < _; omega⟩
theorem getE_zero {S : Fs} {s : ByteArray} (h : getE S s = 0) : S.dead = false ∧ ∃ n, mGet S.seen s = some n ∧ getN S s = n := by
  unfold getE at h
  cases hd : S.dead with
  | true => rw [hd] at h; simp at h
  | false =>
    rw [hd] at h
    cases hm : mGet S.seen s with
    | none => rw [hm] at h; simp at h
    | some n => exact ⟨rfl, n, rfl, by unfold getN; rw [hm]; rfl⟩
theorem append_ch {S : Fs} (h : FsOk S) {s : ByteArray} {b : List UInt8} {n : Nat} (hn : mGet S.seen s = some n) (hr : ¬ (0 < b.length ∧ S.room < b.length + S.used)) : ChOk (flAt S.fl n).now ⟨false, (flAt S.fl n).now.length, b⟩ := by
  obtain ⟨_, x, _, hx, e⟩ := h.file hn
  have h1 := used_ge h hn
  have h2 := h.room
  have h3 := hx.now
  rw [e] at h1 ⊢
  refine ⟨Nat.le_refl _, ?_, fun h => by cases h⟩
  show x.now.length + b.length ≤ M0
  unfold M0 at *
  omega
theorem write_ch {S : Fs} (h : FsOk S) {s : ByteArray} {b : List UInt8} {n k : Nat} (hn : mGet S.seen s = some n) (hk : k ≤ (flAt S.fl n).now.length) (hr : ¬ ((flAt S.fl n).now.length < b.length + k ∧ S.room + (flAt S.fl n).now.length < b.length + k + S.used)) : ChOk (flAt S.fl n).now ⟨false, k, b⟩ := by
  obtain ⟨_, x, _, hx, e⟩ := h.file hn
  have h1 := used_ge h hn
  have h2 := h.room
  have h3 := hx.now
  rw [e] at h1 hk hr ⊢
  refine ⟨hk, ?_, fun h => by cases h⟩
  show k + b.length ≤ M0
  unfold M0 at *
  omega

/-! ### a failure -/
def takeN (many : Nat) : List Int → Nat × List Int
  | [] => (0, [])
  | a :: l => ((a % 18446744073709551616).toNat % many, l)
theorem takeN_lt {many : Nat} (h : 0 < many) (l : List Int) : (takeN many l).1 < many := by
  cases l with
  | nil => exact h
  | cons a l => exact Nat.mod_lt _ h
def torn (b : List UInt8) (c : Chg) (m : Nat) : List UInt8 :=
  let e := if c.off + m < b.length then c.off + m - (c.off + m) % 512 else c.off + m
  if c.off < e then chDo b ⟨false, c.off, c.b.take (e - c.off)⟩ else b
def leftOfF (x : Fl) (l : List Int) : List UInt8 × List Int :=
  let r := takeN (x.row.length + 1) l
  let b := (x.row.take r.1).foldl chDo x.sure
  match x.row[r.1]? with
  | none => (b, r.2)
  | some c => if c.cut then (b, r.2) else
    let r2 := takeN (c.b.length + 1) r.2
    (torn b c r2.1, r2.2)
def leftAll (fl : List Fl) : Dir → List Int → List (List UInt8)
  | [], _ => []
  | p :: D, l => (leftOfF (flAt fl p.2) l).1 :: leftAll fl D (leftOfF (flAt fl p.2) l).2
def failDir (S : Fs) (l : List Int) : Dir := (S.row.take (takeN (S.row.length + 1) l).1).foldl dirDo S.sure
def mkFs (room : Nat) (bs : List (List UInt8)) (ns : List ByteArray) : Fs :=
  ⟨room, bs.map (fun b => ⟨b, b, []⟩), ns.zipIdx.map (fun p => (p.1, p.2 + 1)), ns.zipIdx.map (fun p => (p.1, p.2 + 1)), [], 0, 0, false⟩
def fsFail (S : Fs) (l : List Int) : Fs :=
  mkFs S.room (leftAll S.fl (failDir S l) (takeN (S.row.length + 1) l).2) (dNames (failDir S l))
end Go.Proofs.Ythphonkiolmkiaa
/- Words that the proofs of this seat share: make as a step of a region that draws; cuts as rules; worlds in which listed blocks have changed, in chains. -/
set_option linter.unusedVariables false
set_option linter.unusedSimpArgs false
namespace Go.Proofs.Ythphonkiolmkiaa
open Go.RowKit
theorem Ch.cellput {L : List Nat} {w w' : World} (h : Ch L w w') {g i : Nat} (hg : g ∈ L) (v : Value) : Ch L w (w'.setCell ⟨g, i, none⟩ v) := h.trans (Ch.put w' g i v) (fun m hm => by simp at hm; subst hm; exact .inl hg)
theorem Ch.newput {L : List Nat} {w w' : World} (h : Ch L w w') {g i : Nat} (hg : w.heap.size ≤ g) (v : Value) : Ch L w (w'.setCell ⟨g, i, none⟩ v) := h.trans (Ch.put w' g i v) (fun m hm => by simp at hm; subst hm; exact .inr hg)
theorem Ch.step {L : List Nat} {w w' w'' : World} (h : Ch L w w') (k : Bl w' w'') : Ch L w w'' := h.thenBl k
section
variable {P : Program} {ops : Array Oper} {o : Oper} {a : Act} {K : Act → World → Prop} {Q : Exit → Act → World → Prop} {w : World} {E : Prop}
/-- make([]T, n), as a step of a region that draws. -/
theorem step_make (hgd : o.guard = none) (t e : TypeId) (l c : Operand) (ho : o.op = .makeSlice t l c) (z : Value) (size bytes : Nat) (ht : P.underlying t = some (.slice e)) (hinfo : (P.info? e).map (fun i => (i.zero, i.size, i.bytes)) = some (some z, size, bytes))
    (n : Nat) (kl kc : IntKind) (hl : a.eval l = .int kl n) (hc : a.eval c = .int kc n) (hb : n * bytes ≤ 281474976710656) (hn : n ≤ 281474976710656) (base : Nat) (hbase : base ≤ w.heap.size)
    (h : ∀ A w', App w' base e size (.slice A n n) n (madeCells z.cells (n * size)).toList → Bl w w' → w'.heap.size = w.heap.size + 1 → (A = some ⟨w.heap.size, 0, none⟩) → K (a.put o.dst (.slice A n n)) w') : if Region.wanted o (yielded ops a.tmps) = true then Oper.wp P o a w K Q else E := by
  rw [if_pos (by simp [Region.wanted, hgd])]
  obtain ⟨i, hi, hzz⟩ := Option.map_eq_some_iff.1 hinfo
  simp only [Prod.mk.injEq] at hzz
  obtain ⟨hz, hsize, hby⟩ := hzz
  subst hsize
  subst hby
  have hr := run_make (P := P) w t e i z ht hi hz kl kc n n (by omega) (by omega) (by rw [← Int.natCast_mul, Nat.mul_comm]; exact Int.ofNat_le.2 hb) (by omega)
  simp only [Int.toNat_natCast] at hr
  unfold Oper.wp
  simp only [execOp, ho, hl, hc]
  simp [hr, Result.andThen]
  exact h _ _ (App.made w _ n hbase (Nat.le_trans hn (by decide)) (by rw [size_madeCells])) ((Bl.refl w).alloc _) (by simp) rfl
end
theorem heap_alloc_at (w : World) (o : Obj) (i : Nat) : (w.alloc o).heap[i]? = if i = w.heap.size then some o else w.heap[i]? := by show (w.heap.push o)[i]? = _; rw [Array.getElem?_push]
theorem heap_alloc_size (w : World) (o : Obj) : (w.alloc o).heap.size = w.heap.size + 1 := by simp
theorem heap_drew_at (w : World) : w.drew.heap = w.heap := rfl
/-- A block of a row's cells, nothing of it taken. -/
theorem App.fresh {w : World} {base g n : Nat} {e : TypeId} {size : Nat} {cur : Array Value} (h : w.heap[g]? = some (.cells cur e (0, 0))) (hb : base ≤ g) (hm : n ≤ maxLen) (hs : cur.size = n * size) : App w base e size (.slice (some ⟨g, 0, none⟩) n n) n cur.toList :=
  ⟨by simpa using hs, .inr ⟨g, 0, n, cur, rfl, hb, h, Nat.le_refl _, hm, by omega, by rw [List.drop_zero, List.take_of_length_le (by simpa using Nat.le_of_eq hs)]⟩⟩
section
variable {P : Program}
/-- make([]T, n) as a rule for the walk. -/
theorem make_rule (t e : TypeId) (z : Value) (size bytes : Nat) (ht : P.underlying t = some (.slice e)) (hinfo : (P.info? e).map (fun i => (i.zero, i.size, i.bytes)) = some (some z, size, bytes)) (n : Nat) (hb : n * bytes ≤ 281474976710656) (hn : n ≤ 281474976710656) (w : World) :
    (Instr.makeSlice t (.int .i64 (n : Int)) (.int .i64 (n : Int))).run P w = .ok (.slice (some ⟨w.heap.size, 0, none⟩) n n) (w.alloc (.cells (madeCells z.cells (n * size)) e)) := by
  obtain ⟨i, hi, hzz⟩ := Option.map_eq_some_iff.1 hinfo
  simp only [Prod.mk.injEq] at hzz
  obtain ⟨hz, hsize, hby⟩ := hzz
  subst hsize
  subst hby
  have hr := run_make (P := P) w t e i z ht hi hz .i64 .i64 n n (by omega) (by omega) (by rw [← Int.natCast_mul, Nat.mul_comm]; exact Int.ofNat_le.2 hb) (by omega)
  simpa only [Int.toNat_natCast] using hr
/-- x[:k:k], x[k:], x[:k] as rules for the walk. -/
theorem cut_hm (t e : TypeId) (size : Nat) (ht : P.underlying t = some (.slice e)) (hsz : (P.info? e).map (·.size) = some size) (A : Option Addr) (n c k : Nat) (hk : k ≤ c) (w : World) :
    (Instr.sliceAt t (.slice A n c) none (some (.int .i64 (k : Int))) (some (.int .i64 (k : Int)))).run P w = .ok (.slice A k k) w := by
  have h := run_cut (P := P) (w := w) t e size ht hsz A n c none (some (.int .i64 (k : Int))) (some (.int .i64 (k : Int))) 0 k k (by have := bounds_hm (P := P) (w := w) n c .i64 .i64 (k : Int) (k : Int) (by omega) (by omega) (by omega); simpa using this)
  rw [cutAddr_zero] at h
  simpa using h
theorem cut_l (t e : TypeId) (size : Nat) (ht : P.underlying t = some (.slice e)) (hsz : (P.info? e).map (·.size) = some size) (A : Option Addr) (n c k : Nat) (hk : k ≤ n) (w : World) :
    (Instr.sliceAt t (.slice A n c) (some (.int .i64 (k : Int))) none none).run P w = .ok (.slice (cutAddr A size k c) (n - k) (c - k)) w :=
  run_cut (P := P) (w := w) t e size ht hsz A n c _ _ _ k n c (bl_nat n c .i64 k hk)
theorem cut_h (t e : TypeId) (size : Nat) (ht : P.underlying t = some (.slice e)) (hsz : (P.info? e).map (·.size) = some size) (A : Option Addr) (n c k : Nat) (hk : k ≤ c) (w : World) :
    (Instr.sliceAt t (.slice A n c) none (some (.int .i64 (k : Int))) none).run P w = .ok (.slice A k c) w := by
  have h := run_cut (P := P) (w := w) t e size ht hsz A n c none (some (.int .i64 (k : Int))) none 0 k c (bh_nat n c .i64 k hk)
  rw [cutAddr_zero] at h
  simpa using h
end
end Go.Proofs.Ythphonkiolmkiaa
/- Layer 14: the disk as parts of memory. -/
set_option linter.unusedVariables false
set_option linter.unusedSimpArgs false
namespace Go.Proofs.Ythphonkiolmkiaa
open Go.RowKit
set_option linter.unusedSectionVars false

/-! ### bytes that nobody writes any more -/
abbrev Facts := Option Addr → List Value → Prop
def pool (F : Facts) : Chunk where
  holds w S := (∀ A cs, F A cs → Rd w A cs ∧ (cs ≠ [] → ∀ a, A = some a → S a.block)) ∧ ∀ b, S b → b < w.heap.size
  loc {w w' S} h k := ⟨fun A cs hf => ⟨fun hn => by
      obtain ⟨h1, h2⟩ := h.1 A cs hf
      obtain ⟨b, o, rfl, hc⟩ := h1 hn
      refine ⟨b, o, rfl, fun j v hv => ?_⟩
      rw [World.cell?_of_block (k b (h2 hn _ rfl))]
      exact hc j v hv, (h.1 A cs hf).2⟩, fun b hb => by
      have h1 := h.2 b hb
      have h2 := k b hb
      rw [Array.getElem?_eq_getElem h1] at h2
      exact (Array.getElem?_eq_some_iff.1 h2).1⟩
  lt h hb := h.2 _ hb
section
variable {w0 w w' : World} {cs : List Chunk} {F : Facts}
theorem Mem.rd (h : Mem w0 cs w) (i : Nat) (hi : cs[i]? = some (pool F)) {A : Option Addr} {xs : List Value} (hf : F A xs) : Rd w A xs := by
  obtain ⟨S, h1, _⟩ := h.at i hi
  exact (h1 A xs hf).1
theorem Mem.noPool (h : Mem w0 cs w) : Mem w0 (pool (fun _ l => l = []) :: cs) w :=
  h.new (Bl.refl w) (S := fun _ => False) ⟨fun A cs hf => ⟨by rw [hf]; exact Rd.nil _ _, fun hn => absurd hf hn⟩, fun _ h => h.elim⟩ (fun b hb => hb.elim)
/-- A row of the call's own is written no more. -/
theorem Mem.sink {T : TypeId} {size n m c : Nat} {A : Option Addr} {xs : List Value} (h : Mem w0 (Go.Proofs.Ythphonkiolmkiaa.row T size (.slice A m c) n xs :: pool F :: cs) w) :
    Mem w0 (pool (fun B l => F B l ∨ (B = A ∧ l = xs)) :: cs) w := by
  refine ⟨h.os, h.tape, h.output, ?_⟩
  obtain ⟨S1, S2, h1, h2, h3, ⟨h4, h5⟩, S3, S4, k1, k2, k3, ⟨k4, k5⟩, k6⟩ := h.parts
  refine ⟨fun b => S1 b ∨ S3 b, S4, fun _ _ => trivial, fun _ _ => trivial, fun b x y => x.elim (fun x => h3 b x (k2 b y)) (fun x => k3 b x y), ⟨fun B l hf => ?_, fun b hb => ?_⟩, k6⟩
  · rcases hf with hf | ⟨rfl, rfl⟩
    · exact ⟨(k4 B l hf).1, fun hn a ha => .inr ((k4 B l hf).2 hn a ha)⟩
    · refine ⟨(h5.rd).1, fun hn a ha => .inl ?_⟩
      subst ha
      rw [h4]
      obtain ⟨b, o, e, _⟩ := h5.rd.1 hn
      cases e
      rfl
  · rcases hb with hb | hb
    · exact (h5.lt _ ((h4 b).1 hb)).2
    · exact k5 b hb
/-- What is known is known in a weaker way. -/
theorem Mem.weak {F' : Facts} (h : Mem w0 (pool F :: cs) w) (k : ∀ A l, F' A l → l = [] ∨ ∃ l', F A l' ∧ ∃ n, l = l'.take n) : Mem w0 (pool F' :: cs) w := by
  refine ⟨h.os, h.tape, h.output, ?_⟩
  obtain ⟨S1, S2, h1, h2, h3, ⟨h4, h5⟩, h6⟩ := h.parts
  refine ⟨S1, S2, h1, h2, h3, ⟨fun A l hf => ?_, h5⟩, h6⟩
  rcases k A l hf with rfl | ⟨l', hl', n, rfl⟩
  · exact ⟨Rd.nil _ _, fun hn => absurd rfl hn⟩
  · refine ⟨((h4 A l' hl').1).take n, fun hn a ha => (h4 A l' hl').2 (fun e => hn (by rw [e]; simp)) a ha⟩
/-- One part of several is taken out, and another one is put in. -/
theorem Mem.pick {l : List Chunk} (h : Mem w0 (tog l :: cs) w) (i : Nat) {A : Chunk} (hi : l[i]? = some A) : Mem w0 (A :: tog (l.eraseIdx i) :: cs) w := by
  have h1 := h.open_
  have hl := (List.getElem?_eq_some_iff.1 hi).1
  have hp : l.Perm (A :: l.eraseIdx i) := by
    have h2 : l.take i ++ l[i] :: l.drop (i + 1) = l := by rw [← List.drop_eq_getElem_cons hl, List.take_append_drop]
    have h3 : (l.take i ++ l[i] :: l.drop (i + 1)).Perm (l[i] :: (l.take i ++ l.drop (i + 1))) := List.perm_middle
    obtain ⟨_, e⟩ := List.getElem?_eq_some_iff.1 hi
    rw [h2, e] at h3
    rw [List.eraseIdx_eq_take_drop_succ]
    exact h3
  have h3 : Mem w0 ((l.eraseIdx i ++ A :: cs)) w := h1.perm ((hp.append_right cs).trans (by
    rw [List.cons_append]
    exact List.perm_middle.symm))
  exact (h3.close).perm (List.Perm.swap _ _ _)
theorem Mem.unpick {l : List Chunk} {i : Nat} {B : Chunk} (h : Mem w0 (B :: tog (l.eraseIdx i) :: cs) w) (hi : i < l.length) : Mem w0 (tog (l.set i B) :: cs) w := by
  have h1 := (h.perm (List.Perm.swap _ _ _)).open_
  refine (h1.perm ?_).close
  have h2 : (l.set i B).Perm (B :: l.eraseIdx i) := by
    rw [List.set_eq_take_append_cons_drop, if_pos hi, List.eraseIdx_eq_take_drop_succ]
    exact List.perm_middle
  exact (List.perm_middle.trans ((h2.append_right cs).symm.trans (List.Perm.refl _)) : (l.eraseIdx i ++ B :: cs).Perm _)
end

/-! ### the disk's parts -/
abbrev nE (n : Nat) : Value := .int .i64 (n : Int)
abbrev sE (s : ByteArray) : Value := .string s
abbrev pE (b : Nat) : Value := .pointer (some ⟨b, 0, none⟩)
def dirC (b : Nat) (L : Dir) : Chunk := mapC b .string sE nE L
structure FlR where
  a : Option Addr
  ac : Nat
  n : Option Addr
  nc : Nat
  v : Value
  chs : List (Chg × Option Addr × Nat)
  F : Facts
def chv (q : Chg × Option Addr × Nat) : List Value := [.bool q.1.cut, nE q.1.off, .slice q.2.1 q.1.b.length q.2.2]
structure FlFit (R : FlR) (x : Fl) : Prop where
  sure : R.F R.a (x.sure.map bv)
  now : R.F R.n (x.now.map bv)
  ac : x.sure.length ≤ R.ac
  nc : x.now.length ≤ R.nc
  row : R.chs.map (·.1) = x.row
  ch : ∀ q ∈ R.chs, R.F q.2.1 (q.1.b.map bv) ∧ q.1.b.length ≤ q.2.2
def flL (b : Nat) (R : FlR) (x : Fl) : List Chunk :=
  [blk b 85 #[.slice R.a x.sure.length R.ac, .slice R.n x.now.length R.nc, R.v], row 93 3 R.v x.row.length (R.chs.flatMap chv), pool R.F]
def fileC (b : Nat) (x : Fl) : Chunk := exs fun R : FlR => tog (pur (FlFit R x) :: flL b R x)
structure FsR where
  fm : Nat
  sm : Nat
  nm : Nat
  v : Value
  Lf : List (Nat × Nat)
  Ls : Dir
  Ln : Dir
  bs : List Nat
def mvv (m : Mv) : List Value := [nE m.kind, sE m.src, sE m.dst, nE m.file]
structure FsFit (R : FsR) (S : Fs) : Prop where
  sure : R.Ls.Perm S.sure
  seen : R.Ln.Perm S.seen
  nd : KeysNd R.Lf
  files : ∀ n b, (n, b) ∈ R.Lf ↔ 1 ≤ n ∧ R.bs[n - 1]? = some b
  len : R.bs.length = S.fl.length
abbrev fsCells (R : FsR) (room used next acts fuse : Nat) (dead : Bool) : Array Value := #[.bool true, nE room, nE used, .map (some R.fm), nE next, .map (some R.sm), .map (some R.nm), R.v, nE acts, nE fuse, .bool dead]
def filesL (bs : List Nat) (fl : List Fl) : List Chunk := (bs.zip fl).map (fun q => fileC q.1 q.2)
def fsL (p : Nat) (R : FsR) (S : Fs) (u : Nat) : List Chunk :=
  [blk p 76 (fsCells R S.room u S.fl.length S.acts S.fuse S.dead), mapC R.fm (.int .i64) nE pE R.Lf, dirC R.sm R.Ls, dirC R.nm R.Ln, row 88 4 R.v S.row.length (S.row.flatMap mvv), tog (filesL R.bs S.fl)]
def fsC (p : Nat) (S : Fs) : Chunk := exs fun R : FsR => tog (pur (FsFit R S ∧ FsOk S) :: fsL p R S S.used)
section
variable {w0 w w' : World} {cs : List Chunk} {p b : Nat} {S : Fs} {x : Fl}
theorem Mem.fs (h : Mem w0 (fsC p S :: cs) w) : ∃ R, FsFit R S ∧ FsOk S ∧ Mem w0 (fsL p R S S.used ++ cs) w := by
  obtain ⟨R, h1⟩ := h.ex
  obtain ⟨h2, h3⟩ := h1.open_.pur
  exact ⟨R, h2.1, h2.2, h3⟩
theorem Mem.unfs {R : FsR} (h : Mem w0 (fsL p R S S.used ++ cs) w) (hf : FsFit R S) (ho : FsOk S) : Mem w0 (fsC p S :: cs) w :=
  Mem.unex (f := fun R : FsR => tog (Go.Proofs.Ythphonkiolmkiaa.pur (FsFit R S ∧ FsOk S) :: fsL p R S S.used)) R (Mem.close (l := Go.Proofs.Ythphonkiolmkiaa.pur (FsFit R S ∧ FsOk S) :: fsL p R S S.used) (h.unpur ⟨hf, ho⟩))
theorem Mem.file (h : Mem w0 (fileC b x :: cs) w) : ∃ R, FlFit R x ∧ Mem w0 (flL b R x ++ cs) w := by
  obtain ⟨R, h1⟩ := h.ex
  obtain ⟨h2, h3⟩ := h1.open_.pur
  exact ⟨R, h2, h3⟩
theorem Mem.unfile {R : FlR} (h : Mem w0 (flL b R x ++ cs) w) (hf : FlFit R x) : Mem w0 (fileC b x :: cs) w :=
  Mem.unex (f := fun R : FlR => tog (Go.Proofs.Ythphonkiolmkiaa.pur (FlFit R x) :: flL b R x)) R (Mem.close (l := Go.Proofs.Ythphonkiolmkiaa.pur (FlFit R x) :: flL b R x) (h.unpur hf))
theorem filesL_at {bs : List Nat} {fl : List Fl} {i : Nat} (hb : bs[i]? = some b) (hx : fl[i]? = some x) : (filesL bs fl)[i]? = some (fileC b x) := by
  unfold filesL
  rw [List.getElem?_map, List.getElem?_zip_eq_some (z := (b, x)) |>.2 ⟨hb, hx⟩]; rfl
theorem filesL_set {bs : List Nat} {fl : List Fl} {i : Nat} (hb : bs[i]? = some b) (x : Fl) : (filesL bs fl).set i (fileC b x) = filesL bs (fl.set i x) := by
  unfold filesL
  apply List.ext_getElem?
  intro j
  rw [List.getElem?_set, List.getElem?_map, List.length_map]
  by_cases e : i = j
  · subst e
    rw [if_pos rfl]
    by_cases hl : i < (bs.zip fl).length
    · rw [if_pos hl]
      have h2 : i < fl.length := by rw [List.length_zip] at hl; omega
      have h3 : (bs.zip (fl.set i x))[i]? = some (b, x) := List.getElem?_zip_eq_some.2 ⟨hb, by simp [h2]⟩
      rw [List.getElem?_map, h3]; rfl
    · have h3 : ((bs.zip (fl.set i x)).map (fun q => fileC q.1 q.2)).length ≤ i := by
        rw [List.length_map, List.length_zip, List.length_set]
        rw [List.length_zip] at hl
        omega
      rw [if_neg hl, List.getElem?_eq_none h3]
  · rw [if_neg e, List.getElem?_map]
    congr 1
    simp only [List.zip, List.getElem?_zipWith, List.getElem?_set_ne e]
end
end Go.Proofs.Ythphonkiolmkiaa
/- Layer 14 walked: the small functions. -/
set_option linter.unusedVariables false
set_option linter.unusedSimpArgs false
namespace Go.Proofs.Ythphonkiolmkiaa
open Go.RowKit
set_option maxRecDepth 100000
set_option maxHeartbeats 4000000

def RetE (e : Nat) (w : World) (en : Ending) (w' : World) : Prop := en = .returned (nE e) ∧ Dr w w'
theorem fs_ready {p : Nat} {R : FsR} {room used next acts fuse : Nat} {dead : Bool} {w : World} (hO : Ob w p 76 (fsCells R room used next acts fuse dead)) :
    Calls Try.prog 48 #[pE p] w (RetE (if dead then 13 else 0) w) := by
  obtain ⟨c0, c10⟩ := And.intro (hO.cell 0 rfl) (hO.cell 10 rfl)
  simp only [List.getElem_toArray, List.getElem_cons_zero, List.getElem_cons_succ] at c0 c10
  go_enter Try.func48, Try.ntmps48
  cases dead
  all_goals
    go_wp2_with fail
    go_ret
    exact ⟨rfl, Dr.refl _⟩
theorem fs_fails {p : Nat} {R : FsR} {room used next acts fuse : Nat} {dead : Bool} {w0 w : World} {cs : List Chunk} (h : Mem w0 (blk p 76 (fsCells R room used next acts fuse dead) :: cs) w) (ha : acts < 1000000000) (hf : fuse < 9223372036854775808) :
    Calls Try.prog 53 #[pE p] w (fun en w' => en = .returned (.bool (if 0 < fuse then decide (fuse = 1) else dead)) ∧ Mem w0 (blk p 76 (fsCells R room used next (acts + 1) (fuse - 1) (if 0 < fuse then decide (fuse = 1) else dead)) :: cs) w') := by
  have HM := Lib.hid h
  have hO := h.ob 0 rfl
  have c8 := hO.cell 8 rfl
  have c9 := hO.cell 9 rfl
  have c10 := hO.cell 10 rfl
  have f8 := hO.free 8
  have f9 := hO.free 9
  have f10 := hO.free 10
  simp only [List.getElem_toArray, List.getElem_cons_zero, List.getElem_cons_succ] at c8 c9 c10
  clear h hO
  go_enter Try.func53, Try.ntmps53
  by_cases h0 : 0 < fuse
  · have i0 : (0 : Int) < (fuse : Int) := by omega
    rw [if_pos h0]
    by_cases h1 : fuse = 1
    · subst h1
      clear h0
      go_wp2_with fail
      go_ret
      have M1 := ((HM.out.put 0 rfl 8 (nE (acts + 1))).put 0 rfl 9 (nE 0)).put 0 rfl 10 (.bool true)
      exact ⟨rfl, M1⟩
    · have i1 : ((fuse : Int) - 1 == 0) = false := by simp; omega
      have e1 : ((fuse : Int) - 1) = ((fuse - 1 : Nat) : Int) := by omega
      go_wp2_with fail
      go_ret
      have M1 := ((HM.out.put 0 rfl 8 (nE (acts + 1))).put 0 rfl 9 (nE (fuse - 1))).put 0 rfl 10 (.bool false)
      have hd : decide (fuse = 1) = false := by simp [h1]
      rw [hd]
      rw [show (((fuse - 1 : Nat) : Int) == 0) = false by simp; omega]
      exact ⟨rfl, M1⟩
  · have h1 : fuse = 0 := by omega
    subst h1
    go_wp2_with fail
    go_ret
    have M1 := (HM.out.put 0 rfl 8 (nE (acts + 1)))
    exact ⟨rfl, M1⟩
theorem fs_end {p : Nat} {R : FsR} {room used next acts fuse : Nat} {dead : Bool} {w0 w : World} {cs : List Chunk} (h : Mem w0 (blk p 76 (fsCells R room used next acts fuse dead) :: cs) w) (ha : acts < 1000000000) (hf : fuse < 9223372036854775808) :
    Calls Try.prog 82 #[pE p] w (fun en w' => en = .returned (nE (if (if 0 < fuse then decide (fuse = 1) else dead) then 13 else 0)) ∧ Mem w0 (blk p 76 (fsCells R room used next (acts + 1) (fuse - 1) (if 0 < fuse then decide (fuse = 1) else dead)) :: cs) w') := by
  have HF := Lib.hid (fs_fails h ha hf)
  clear h
  generalize (if 0 < fuse then decide (fuse = 1) else dead) = x at HF ⊢
  go_enter Try.func82, Try.ntmps82
  go_wp2_with fail
  refine HF.out.mono ?_
  rintro e w1 ⟨rfl, h1⟩
  have H1 := Lib.hid h1
  clear h1 HF
  cases x
  all_goals
    go_wp2_with fail
    go_ret
    exact ⟨rfl, H1.out⟩
theorem map_files_u : Try.prog.underlying 72 = some (.map 3 82) := Try.underlying72
theorem map_dir_u : Try.prog.underlying 73 = some (.map 9 3) := Try.underlying73
theorem int_u : Try.prog.underlying 3 = some (.int .i64) := Try.underlying3
theorem str_u : Try.prog.underlying 9 = some .string := Try.underlying9
theorem zero_file (w : World) : (zeroValue 82).run Try.prog w = .ok (.pointer none) w := by kernel_rfl
theorem zero_int (w : World) : (zeroValue 3).run Try.prog w = .ok (nE 0) w := by kernel_rfl
theorem dir_get2 {w : World} {b : Nat} {L : Dir} (h : MapIs w b .string (mEnc sE nE L)) (s : ByteArray) : (Instr.lookup 73 (.map (some b)) (sE s) true).run Try.prog w = .ok (.tuple #[nE ((mGet L s).getD 0), .bool (mGet L s).isSome]) w := by
  rw [h.lookup strEnc map_dir_u str_u (zero_int w) s true]
  cases mGet L s <;> rfl
theorem dir_get1 {w : World} {b : Nat} {L : Dir} (h : MapIs w b .string (mEnc sE nE L)) (s : ByteArray) : (Instr.lookup 73 (.map (some b)) (sE s) false).run Try.prog w = .ok (nE ((mGet L s).getD 0)) w := by
  rw [h.lookup strEnc map_dir_u str_u (zero_int w) s false]
  cases mGet L s <;> rfl
theorem file_get1 {w : World} {b : Nat} {L : List (Nat × Nat)} (h : MapIs w b (.int .i64) (mEnc nE pE L)) {n m : Nat} (hm : mGet L n = some m) : (Instr.lookup 72 (.map (some b)) (nE n) false).run Try.prog w = .ok (pE m) w := by
  rw [h.lookup intEnc map_files_u int_u (zero_file w) n false, hm]
  rfl
/-- A file that is there. -/
theorem fs_get {p : Nat} {R : FsR} {S : Fs} {u : Nat} {w0 w : World} {cs : List Chunk} (s : ByteArray) (h : Mem w0 (fsL p R S u ++ cs) w) (hf : FsFit R S) (ho : FsOk S) :
    Calls Try.prog 51 #[pE p, sE s] w (fun en w' => (en = .returned (.tuple #[if getE S s = 0 then pE ((R.bs[getN S s - 1]?).getD 0) else .pointer none, nE (getE S s)])) ∧ Mem w0 (fsL p R S u ++ cs) w') := by
  have HM := Lib.hid h
  clear h
  cases hd : S.dead
  case true =>
    have he : getE S s = 13 := by unfold getE; rw [hd]; rfl
    rw [he]
    clear he
    have hO := fs_ready (HM.out.ob 0 rfl)
    rw [hd] at hO
    have HO := Lib.hid hO
    clear hO hd
    go_enter Try.func51, Try.ntmps51
    go_wp2_with fail
    refine HO.out.mono ?_
    rintro e w1 ⟨rfl, n, rfl⟩
    have HM1 := Lib.hid (HM.out.drewN n)
    clear HM HO
    generalize w.drewN n = v at HM1 ⊢
    go_wp2_with fail
    go_ret2
    exact ⟨rfl, HM1.out⟩
  case false =>
    have hO := fs_ready (HM.out.ob 0 rfl)
    rw [hd] at hO
    have HO := Lib.hid hO
    clear hO
    have hp := mGet_perm (ho.seen.ok.nd.perm hf.seen.symm) hf.seen s
    have HL := Lib.hid (fun (v : World) (M : Mem w0 (fsL p R S u ++ cs) v) => dir_get2 (M.map' 3 rfl) s)
    rw [hp] at HL
    cases hg : mGet S.seen s with
    | none =>
      rw [hg] at HL
      have he : getE S s = 7 := by unfold getE; rw [hd, hg]; rfl
      rw [he]
      clear he hg hp hd
      go_enter Try.func51, Try.ntmps51
      go_wp2_with fail
      refine HO.out.mono ?_
      rintro e w1 ⟨rfl, n, rfl⟩
      have HM1 := Lib.hid (HM.out.drewN n)
      clear HM HO
      generalize w.drewN n = v at HM1 ⊢
      have c6 := (HM1.out.ob 0 rfl).cell 6 rfl
      simp only [List.getElem_toArray, List.getElem_cons_zero, List.getElem_cons_succ] at c6
      have l1 := HL.out v HM1.out
      simp only [Option.getD_none, Option.isSome_none] at l1
      go_wp2_with fail
      go_ret2
      exact ⟨rfl, HM1.out⟩
    | some m =>
      rw [hg] at HL
      have he : getE S s = 0 := by unfold getE; rw [hd, hg]; rfl
      have hN : getN S s = m := by unfold getN; rw [hg]; rfl
      rw [he, hN, if_pos rfl]
      obtain ⟨h1, x, hx, _, _⟩ := ho.file hg
      have hl : m - 1 < R.bs.length := by rw [hf.len]; exact (List.getElem?_eq_some_iff.1 hx).1
      obtain ⟨bb, hb⟩ : ∃ bb, R.bs[m - 1]? = some bb := ⟨_, List.getElem?_eq_getElem hl⟩
      have hmg := (mGet_some hf.nd).2 ((hf.files m bb).2 ⟨h1, hb⟩)
      have HL2 := Lib.hid (fun (v : World) (M : Mem w0 (fsL p R S u ++ cs) v) => file_get1 (M.map' 1 rfl) hmg)
      rw [hb]
      clear he hg hp hN hb hl hx h1 hmg hd
      simp only [Option.getD_some]
      go_enter Try.func51, Try.ntmps51
      go_wp2_with fail
      refine HO.out.mono ?_
      rintro e w1 ⟨rfl, n, rfl⟩
      have HM1 := Lib.hid (HM.out.drewN n)
      clear HM HO
      generalize w.drewN n = v at HM1 ⊢
      have c6 := (HM1.out.ob 0 rfl).cell 6 rfl
      have c3 := (HM1.out.ob 0 rfl).cell 3 rfl
      simp only [List.getElem_toArray, List.getElem_cons_zero, List.getElem_cons_succ] at c6 c3
      have l1 := HL.out v HM1.out
      have l2 := HL2.out v HM1.out
      simp only [Option.getD_some, Option.isSome_some] at l1
      go_wp2_with fail
      go_ret2
      exact ⟨rfl, HM1.out⟩
end Go.Proofs.Ythphonkiolmkiaa
/- Parts of memory: more steps. No program in sight. -/
set_option linter.unusedVariables false
set_option linter.unusedSimpArgs false
namespace Go.Proofs.Ythphonkiolmkiaa
open Go.RowKit
set_option linter.unusedSectionVars false
section
variable {α β : Type} {P : Program} {w0 w w' : World} {cs : List Chunk} {b r : Nat} {d : TypeDesc} {t kt et : TypeId} {kE : α → Value} {vE : β → Value} {L left : List (α × β)} {A B : Chunk}
/-- How many are still to come, read off the world. -/
def rngLeft (w : World) (b r : Nat) : Nat :=
  match w.heap[b]?, w.heap[r]? with
  | some (.map es _), some (.mapIter _ _ seen _) => (leftOf es seen).size
  | _, _ => 0
theorem Mem.rngLeft (h : Mem w0 cs w) (i : Nat) (hi : cs[i]? = some (rngC b r d kE vE L left)) : Go.Proofs.Ythphonkiolmkiaa.rngLeft w b r = left.length := by
  obtain ⟨S, _, es, clock, seen, hb, _, _, _, hr, hl⟩ := h.at i hi
  unfold Go.Proofs.Ythphonkiolmkiaa.rngLeft
  rw [hb, hr]
  have := congrArg List.length hl
  simpa [mEnc] using this
theorem Mem.rngMap (h : Mem w0 cs w) (i : Nat) (hi : cs[i]? = some (rngC b r d kE vE L left)) : MapIs w b d (mEnc kE vE L) := by
  obtain ⟨S, _, es, clock, seen, hb, hs, hk, hl, _⟩ := h.at i hi
  exact ⟨es, clock, hb, hs, hk, hl⟩
/-- The first part goes behind k others. -/
theorem Mem.away (h : Mem w0 (A :: cs) w) (k : Nat) : Mem w0 (cs.take k ++ A :: cs.drop k) w := h.perm (by
  have h2 : (A :: (cs.take k ++ cs.drop k)).Perm (cs.take k ++ A :: cs.drop k) := List.perm_middle.symm
  rw [List.take_append_drop] at h2
  exact h2)
end
end Go.Proofs.Ythphonkiolmkiaa
/- Layer 14 walked: count. -/
set_option linter.unusedVariables false
set_option linter.unusedSimpArgs false
namespace Go.Proofs.Ythphonkiolmkiaa
open Go.RowKit
set_option maxRecDepth 100000
set_option maxHeartbeats 4000000

theorem Mem.seeFile {w0 w : World} {cs : List Chunk} (h : Mem w0 cs w) (i : Nat) {bs : List Nat} {fl : List Fl} (hi : cs[i]? = some (tog (filesL bs fl))) {j b : Nat} {x : Fl} (hb : bs[j]? = some b) (hx : fl[j]? = some x) :
    ∃ R : FlR, FlFit R x ∧ Ob w b 85 #[.slice R.a x.sure.length R.ac, .slice R.n x.now.length R.nc, R.v] ∧ Rd w R.a (x.sure.map bv) ∧ Rd w R.n (x.now.map bv) := by
  have h1 := h.bring i
  have h2 : Go.Proofs.Ythphonkiolmkiaa.bring i cs = tog (filesL bs fl) :: cs.eraseIdx i := by unfold Go.Proofs.Ythphonkiolmkiaa.bring; rw [hi]
  rw [h2] at h1
  obtain ⟨R, hf, h3⟩ := (h1.pick j (filesL_at hb hx)).file
  exact ⟨R, hf, h3.ob 0 rfl, h3.rd 2 rfl hf.sure, h3.rd 2 rfl hf.now⟩
theorem usedOf_erase (fl : List Fl) {D : Dir} {j : Nat} {p : ByteArray × Nat} (h : D[j]? = some p) : usedOf fl D = usedOf fl (D.eraseIdx j) + (flAt fl p.2).now.length := by
  induction D generalizing j with
  | nil => simp at h
  | cons q D ih =>
    cases j with
    | zero => simp at h; subst h; simp [usedOf]; omega
    | succ j =>
      have := ih (j := j) (by simpa using h)
      unfold usedOf at *
      rw [List.eraseIdx_cons_succ, List.map_cons, List.map_cons, List.sum_cons, List.sum_cons, this]; omega
theorem usedOf_perm (fl : List Fl) {D E : Dir} (h : D.Perm E) : usedOf fl D = usedOf fl E := (h.map _).sum_nat
theorem fs_count {p : Nat} {R : FsR} {S : Fs} {u : Nat} {w0 w : World} {cs : List Chunk} (h : Mem w0 (fsL p R S u ++ cs) w) (hf : FsFit R S) (hin : DirIn S.fl.length S.seen) (hfl : ∀ x ∈ S.fl, FlOk x) :
    Calls Try.prog 59 #[pE p] w (fun en w' => en = .returned (.tuple #[]) ∧ Mem w0 (fsL p R S S.used ++ cs) w') := by
  have hle := used_le hfl hin
  have hus : usedOf S.fl R.Ln = S.used := usedOf_perm _ hf.seen
  have HN := Lib.hid (show usedOf S.fl R.Ln = S.used ∧ S.used ≤ 67108864 from ⟨hus, hle⟩)
  have HFIT := Lib.hid hf
  have HIN := Lib.hid hin
  clear hle hus hf hin hfl
  have f2 : w.frozen? ⟨p, 2, none⟩ = false := (h.ob 0 rfl).free 2
  have c2 : w.cell? ⟨p, 2, none⟩ = some (nE u) := (h.ob 0 rfl).cell 2 rfl
  have HM := Lib.hid (h.put 0 rfl 2 (.int .i64 0))
  clear h
  go_enter Try.func59, Try.ntmps59
  go_upto_region 1 with (fail)
  generalize w.setCell ⟨p, 2, none⟩ (.int .i64 0) = v at HM ⊢
  clear f2 c2
  have c6 : v.cell? ⟨p, 6, none⟩ = some (.map (some R.nm)) := (HM.out.ob 0 rfl).cell 6 rfl
  obtain ⟨o, hr, M2⟩ := (HM.out.bring 3).rngStart map_dir_u
  have HM2 := Lib.hid M2
  clear M2
  go_wp2_with fail
  generalize v.alloc o = v2 at HM2 ⊢
  generalize v.heap.size = r at HM2 ⊢
  clear hr c6 HM
  go_loopw [3] (fun _ wr => ∃ (left : Dir) (u' : Nat), u' + usedOf S.fl left = S.used ∧ (∀ q ∈ left, q ∈ R.Ln) ∧ Hid (Mem w0 (rngC R.nm r .string sE nE R.Ln left :: blk p 76 (fsCells R S.room u' S.fl.length S.acts S.fuse S.dead) :: mapC R.fm (.int .i64) nE pE R.Lf :: dirC R.sm R.Ls :: row 88 4 R.v S.row.length (S.row.flatMap mvv) :: tog (filesL R.bs S.fl) :: cs) wr)) (fun _ wr => rngLeft wr R.nm r)
  case atStart => exact ⟨R.Ln, 0, by rw [Nat.zero_add]; exact HN.out.1, fun _ h => h, HM2.out⟩
  case round =>
    obtain ⟨left, u', hu, hsub, HS⟩ := hrel
    have hlen := HS.out.rngLeft 0 rfl
    rcases HS.out.rngNext (P := Try.prog) 0 with ⟨hnil, hr⟩ | ⟨j, ⟨s, n⟩, v3, hj, hr1, hr2, M3, hsz⟩
    · subst hnil
      have hu2 : u' = S.used := by simpa [usedOf] using hu
      subst hu2
      have HF := Lib.hid (HS.out.rngEnd.away 3)
      clear hu hsub HS hlen HN HFIT HIN HM2
      go_wp2_with fail
      go_end0
      exact ⟨rfl, HF.out⟩
    · have hq : (s, n) ∈ S.seen := HFIT.out.seen.mem_iff.1 (hsub _ (List.mem_of_getElem? hj))
      have hn := HIN.out.pos _ hq
      simp only at hn
      have hl : n - 1 < S.fl.length := by omega
      obtain ⟨x, hx⟩ : ∃ x, S.fl[n - 1]? = some x := ⟨_, List.getElem?_eq_getElem hl⟩
      obtain ⟨bb, hb⟩ : ∃ bb, R.bs[n - 1]? = some bb := ⟨_, List.getElem?_eq_getElem (by rw [HFIT.out.len]; exact hl)⟩
      have hmg := (mGet_some HFIT.out.nd).2 ((HFIT.out.files n bb).2 ⟨hn.1, hb⟩)
      have hx2 : flAt S.fl n = x := by unfold flAt; rw [hx]; rfl
      have he := usedOf_erase S.fl hj
      simp only [hx2] at he
      obtain ⟨R', _, hob, _, _⟩ := M3.seeFile 5 rfl hb hx
      have k1 : v3.cell? ⟨bb, 1, none⟩ = some (.slice R'.n x.now.length R'.nc) := hob.cell 1 rfl
      have k2 : v3.cell? ⟨p, 2, none⟩ = some (nE u') := (M3.ob 1 rfl).cell 2 rfl
      have k3 : v3.cell? ⟨p, 3, none⟩ = some (.map (some R.fm)) := (M3.ob 1 rfl).cell 3 rfl
      have f2 : v3.frozen? ⟨p, 2, none⟩ = false := (M3.ob 1 rfl).free 2
      have l2 := file_get1 (M3.map' 2 rfl) hmg
      have l3 := file_get1 (M3.drew.map' 2 rfl) hmg
      have i0 : (u' : Int) + (x.now.length : Int) ≤ 9223372036854775807 := by have := HN.out.2; omega
      have HM3 := Lib.hid M3
      have HX := Lib.hid (And.intro hu (And.intro he (And.intro hsub (And.intro hj hlen))))
      clear hob hmg hx2 he M3 hx hb hl hn hq hu hsub hj hlen
      go_upto_region 4 with (fail)
      go_region
      have HM4 := Lib.hid ((HM3.out.put 1 rfl 2 (.int .i64 ((u' : Int) + (x.now.length : Int)))).drew)
      go_wp2_with fail
      go_roundw
      case rel =>
        obtain ⟨hu, he, hsub, hj, _⟩ := HX.out
        exact ⟨left.eraseIdx j, u' + x.now.length, by omega, fun q hq => hsub q (List.mem_of_mem_eraseIdx hq), HM4.out⟩
      case measure =>
        obtain ⟨_, _, _, hj, hlen⟩ := HX.out
        have hjl := (List.getElem?_eq_some_iff.1 hj).1
        have e := HM4.out.rngLeft (b := R.nm) (r := r) (d := .string) (kE := sE) (vE := nE) (L := R.Ln) (left := left.eraseIdx j) 0 rfl
        rw [e, hlen, List.length_eraseIdx, if_pos hjl]; omega
end Go.Proofs.Ythphonkiolmkiaa
/- copy into a row from a place on. No program in sight. -/
set_option linter.unusedVariables false
set_option linter.unusedSimpArgs false
namespace Go.Proofs.Ythphonkiolmkiaa
open Go.RowKit
theorem wp_copy_at {P : Program} {o : Oper} {a : Act} {w : World} {K : Act → World → Prop} {Q : Exit → Act → World → Prop} (d s : Operand) (dT sT : TypeId) (ho : o.op = .call { callee := .builtin .copy, args := #[d, s], argTypes := #[dT, sT] }) (e : TypeId) (hu : P.underlying dT = some (.slice e)) (hsz : (P.info? e).map (·.size) = some 1)
    {base : Nat} {A : Option Addr} {n c : Nat} {ds : List Value} (hown : App w base e 1 (.slice A n c) n ds) (k : Nat) (hk : k ≤ n) (hd : a.eval d = .slice (cutAddr A 1 k c) (n - k) (c - k)) {B : Option Addr} {m cB : Nat} (hs : a.eval s = .slice B m cB) {cs : List Value} (hl : cs.length = m) (hr : Rd w B cs) (h1 : ∀ u ∈ cs, u.oneCell' = true)
    (h : ∀ w', App w' base e 1 (.slice A n c) n (ds.take k ++ cs.take (n - k) ++ ds.drop (k + m)) → w.grownBy w' (Value.slice A n c).ownBlock → w'.heap.size = w.heap.size → K (a.put o.dst (.int .i64 (min m (n - k) : Nat))) w') :
    Oper.wp P o a w K Q := by
  have hdl := hown.len
  rw [Nat.mul_one] at hdl
  by_cases h0 : min m (n - k) = 0
  · have hrun := run_copy_none (P := P) w dT sT o.type e (cutAddr A 1 k c) B (n - k) (c - k) m cB hu hsz h0
    unfold Oper.wp
    simp [execOp, ho, resolve, invoke, builtin, hd, hs, hrun, Result.andThen]
    have hx := h w ?_ ⟨rfl, rfl, rfl, Nat.le_refl _, fun _ _ _ => rfl⟩ rfl
    · rw [h0] at hx; exact hx
    · have e1 : ds.take k ++ cs.take (n - k) ++ ds.drop (k + m) = ds := by
        rcases Nat.eq_zero_or_pos m with hm | hm
        · subst hm
          obtain rfl : cs = [] := List.eq_nil_of_length_eq_zero hl
          simp
        · have hkn : n - k = 0 := by omega
          rw [hkn, List.take_zero, List.append_nil, List.take_of_length_le (by omega), List.drop_eq_nil_of_le (by omega), List.append_nil]
      rw [e1]; exact hown
  · rcases hown.is with ⟨_, hn⟩ | ⟨g, off, cap, cur, hv, hb, hg, hnc, hcm, hfit, htake⟩
    · omega
    · simp only [Value.slice.injEq] at hv
      obtain ⟨rfl, _, rfl⟩ := hv
      obtain ⟨bs, os, rfl, hcell⟩ := hr (by intro e; simp [e] at hl; omega)
      have hck : c ≠ k := by omega
      rw [cutAddr_some g off 1 k c hck, Nat.mul_one] at hd
      have hlen : (cs.take (n - k)).length = min m (n - k) := by rw [List.length_take, hl, Nat.min_comm]
      have hrun := run_copy_row (P := P) w dT sT o.type e g (off + k) (n - k) (c - k) ⟨bs, os, none⟩ m cB cur e (cs.take (n - k)) hu hsz hg hlen (hr.take (n - k)).cells (by rw [hlen]; omega) (fun u hu => h1 u (List.mem_of_mem_take hu))
      unfold Oper.wp
      simp [execOp, ho, resolve, invoke, builtin, hd, hs, hrun, Result.andThen]
      have hgo : goInt ((min (n - k) cs.length : Nat) : Int) = .int .i64 (min m (n - k) : Nat) := by rw [hl, Nat.min_comm]; rfl
      rw [hgo]
      have hcl : cur.toList.length = cur.size := Array.length_toList
      refine h _ ⟨?_, .inr ⟨g, off, c, _, rfl, hb, setRow_heap w g cur _ e _ hg, hnc, hcm, ?_, ?_⟩⟩ ⟨rfl, rfl, rfl, by simp, fun q _ hq => setRow_other w g q _ (fun e => hq (by simp [Value.ownBlock, e]))⟩ (by simp)
      · simp only [List.length_append, List.length_take, List.length_drop, hl, hdl]; omega
      · simp only [List.size_toArray, List.length_append, List.length_take, List.length_drop, hcl, hl]; omega
      · show List.take (n * 1) (List.drop off _) = _
        have e1 : List.drop off (cur.toList.take (off + k) ++ (cs.take (n - k) ++ cur.toList.drop (off + k + min (n - k) cs.length))) = (cur.toList.drop off).take k ++ (cs.take (n - k) ++ (cur.toList.drop off).drop (k + min (n - k) cs.length)) := by
          rw [List.drop_append_of_le_length (by rw [List.length_take, hcl]; omega), List.drop_take, Nat.add_sub_cancel_left, List.drop_drop, Nat.add_assoc]
        have htake2 : (cur.toList.drop off).take n = ds := by rw [← htake, Nat.mul_one]
        have hX : n ≤ (cur.toList.drop off).length := by rw [List.length_drop, hcl]; omega
        simp only [e1, Nat.mul_one]
        generalize cur.toList.drop off = X at htake2 hX
        subst htake2
        rw [← List.append_assoc, List.take_append, List.take_of_length_le (by simp; omega), List.take_take, Nat.min_eq_left hk]
        simp only [List.append_assoc]
        congr 1
        congr 1
        rw [List.drop_take]
        simp only [List.length_append, List.length_take, hl]
        rcases Nat.le_total m (n - k) with hmn | hmn
        · rw [Nat.min_eq_right hmn]
          congr 1
          omega
        · rw [Nat.min_eq_left hmn, show n - (min k X.length + (n - k)) = 0 by omega, show n - (k + m) = 0 by omega]
          simp
theorem copy_at {P : Program} {ops : Array Oper} {rest : List Oper} {o : Oper} {a : Act} {w : World} {Q : Exit → Act → World → Prop} (hgd : o.guard = none) (d s : Operand) (dT sT : TypeId) (ho : o.op = .call { callee := .builtin .copy, args := #[d, s], argTypes := #[dT, sT] }) (e : TypeId) (hu : P.underlying dT = some (.slice e)) (hsz : (P.info? e).map (·.size) = some 1)
    {base : Nat} {A : Option Addr} {n c : Nat} {ds : List Value} (hown : App w base e 1 (.slice A n c) n ds) (k : Nat) (hk : k ≤ n) (hd : a.eval d = .slice (cutAddr A 1 k c) (n - k) (c - k)) {B : Option Addr} {m cB : Nat} (hs : a.eval s = .slice B m cB) {cs : List Value} (hl : cs.length = m) (hr : Rd w B cs) (h1 : ∀ u ∈ cs, u.oneCell' = true)
    (h : ∀ w', App w' base e 1 (.slice A n c) n (ds.take k ++ cs.take (n - k) ++ ds.drop (k + m)) → w.grownBy w' (Value.slice A n c).ownBlock → w'.heap.size = w.heap.size → wpList P ops Q rest (a.put o.dst (.int .i64 (min m (n - k) : Nat))) w') :
    wpList P ops Q (o :: rest) a w :=
  wpList_plain hgd fun _ hK => wp_copy_at d s dT sT ho e hu hsz hown k hk hd hs hl hr h1 fun w' h2 h3 h4 => hK _ _ (h w' h2 h3 h4)
end Go.Proofs.Ythphonkiolmkiaa
/- Layer 14 walked: a change done. -/
set_option linter.unusedVariables false
set_option linter.unusedSimpArgs false
namespace Go.Proofs.Ythphonkiolmkiaa
open Go.RowKit
set_option maxRecDepth 100000
set_option maxHeartbeats 4000000

theorem chDo_list (s cb : List UInt8) (k : Nat) (hk : k ≤ s.length) : (s.take k ++ cb.take (s.length - k) ++ s.drop (k + cb.length)) ++ cb.drop (min cb.length (s.length - k)) = s.take k ++ cb ++ s.drop (k + cb.length) := by
  rcases Nat.le_total cb.length (s.length - k) with h | h
  · rw [Nat.min_eq_left h, List.take_of_length_le h, List.drop_length, List.append_nil]
  · rw [Nat.min_eq_right h, List.drop_eq_nil_of_le (by omega), List.append_nil, List.append_nil, List.append_assoc, List.take_append_drop]
theorem bv_all (l : List UInt8) : ∀ u ∈ l.map bv, u.oneCell' = true := bv_one l
theorem change_do (c : Chg) (A B : Option Addr) (s : List UInt8) (capA capB : Nat) (w : World) (hA : Rd w A (s.map bv)) (hB : Rd w B (c.b.map bv)) (hs : s.length ≤ M0) (hcA : s.length ≤ capA) (hcB : c.b.length ≤ capB) (hc : ChOk s c) :
    Calls Try.prog 83 #[.agg #[.bool c.cut, nE c.off, .slice B c.b.length capB], .slice A s.length capA] w (fun en w' => Bl w w' ∧ ∃ A' cap', en = .returned (.slice A' (chDo s c).length cap') ∧ (chDo s c).length ≤ cap' ∧
      ((c.cut = true ∧ A' = A ∧ cap' = (chDo s c).length) ∨ (c.cut = false ∧ App w' w.heap.size 5 1 (.slice A' (chDo s c).length cap') (chDo s c).length ((chDo s c).map bv)))) := by
  obtain ⟨cut, k, cb⟩ := c
  have hk : k ≤ s.length := hc.off
  have he : k + cb.length ≤ 1048576 := hc.end_
  have hs2 : s.length ≤ 1048576 := hs
  simp only at *
  have HA := Lib.hid hA
  have HB := Lib.hid hB
  clear hA hB hc hs
  have HO := Lib.hid (Ob.new w #[.bool cut, nE k, .slice B cb.length capB] 93)
  have HW := Lib.hid ((Bl.refl w).alloc (.cells #[.bool cut, nE k, .slice B cb.length capB] 93))
  go_enter Try.func83, Try.ntmps83
  go_upto_region 1 with (fail)
  generalize w.alloc (.cells #[.bool cut, nE k, .slice B cb.length capB] 93) = u at HO HW ⊢
  obtain ⟨g, hg⟩ : ∃ g, g = w.heap.size := ⟨_, rfl⟩
  rw [← hg] at HO ⊢
  have HG := Lib.hid hg
  clear hg
  have k0 : u.cell? ⟨g, 0, none⟩ = some (.bool cut) := HO.out.cell 0 rfl
  have k1 : u.cell? ⟨g, 1, none⟩ = some (nE k) := HO.out.cell 1 rfl
  cases cut with
  | true =>
    have s1 := cut_hm (P := Try.prog) 22 5 1 Try.underlying22 Try.sizeU8 A s.length capA k (by omega) u
    go_wp2_with fail
    go_ret
    have e : (chDo s ⟨true, k, cb⟩).length = k := by unfold chDo; simp; omega
    exact ⟨HW.out, A, k, by rw [e]; rfl, by rw [e]; exact Nat.le_refl _, rfl, e.symm⟩
  | false =>
    have HN := Lib.hid (App.nil u u.heap.size 5 1)
    go_upto_region 4 with (at_builtin; go_must (refine append_row rfl _ _ 22 5 (.int .u8 0) 1 1 rfl Try.underlying22 Try.infoU8 rfl (by decide) u.heap.size HN.out (by rfl) (by rfl) (HA.out.bl HW.out) (by simp) (bv_all s) (by simp; omega) (by simp; omega) (Nat.le_refl _) ?_); intro v1 w1 hown1 hgr1 hat1)
    have hbl1 : Bl u w1 := (Bl.refl u).grown hgr1 (by intro q hq; cases hq)
    have HO1 := Lib.hid (HO.out.bl hbl1)
    have HSU := Lib.hid hbl1.size
    have hne : ∀ q, v1.ownBlock = some q → g ≠ q := by
      intro q hq e
      have h1 := hown1.ge q hq
      have h2 := HO.out.lt
      omega
    have HNE := Lib.hid hne
    have HB1 := Lib.hid (HW.out.trans hbl1)
    have HN1 := Lib.hid hown1
    simp only [Nat.zero_add, List.nil_append] at HN1
    clear hown1 hgr1 hat1 k0 k1 hne hbl1
    obtain ⟨A1, c1, rfl, hc1⟩ := HN1.out.slice
    have k1 : w1.cell? ⟨g, 1, none⟩ = some (nE k) := HO1.out.cell 1 rfl
    have k2 : w1.cell? ⟨g, 2, none⟩ = some (.slice B cb.length capB) := HO1.out.cell 2 rfl
    have s1 := cut_l (P := Try.prog) 22 5 1 Try.underlying22 Try.sizeU8 A1 s.length c1 k hk w1
    have s2 := cut_l (P := Try.prog) 22 5 1 Try.underlying22 Try.sizeU8 A1 s.length c1 k hk w1.drew
    have HN2 := Lib.hid (HN1.out.drew)
    go_still_tail 6, (by kernel_rfl)
    change wpList _ _ _ _ _ w1.drew
    refine copy_at rfl _ _ 22 22 (by rfl) 5 Try.underlying22 Try.sizeU8 HN2.out k hk (by rfl) (by rfl) (cs := cb.map bv) (by simp) ((HB.out.bl HB1.out).bl (Bl.refl _).drew) (bv_all cb) ?_
    intro w2 hown2 hgr2 hsz2
    have HO2 : Ob w2 g 93 #[.bool false, nE k, .slice B cb.length capB] := by
      refine ((hgr2.block g HO1.out.lt ?_).trans HO1.out)
      intro e
      exact HNE.out g e.symm rfl
    have HB2 : Bl w w2 := HB1.out.drew.grown hgr2 (by
      intro q hq
      have h1 := HN1.out.ge q hq
      have h2 := HW.out.size
      omega)
    have e2 : ((s.map bv).take k ++ (cb.map bv).take (s.length - k) ++ (s.map bv).drop (k + cb.length)) = (s.take k ++ cb.take (s.length - k) ++ s.drop (k + cb.length)).map bv := by simp
    rw [e2] at hown2
    have HN3 := Lib.hid hown2
    have HSZ := Lib.hid (show u.heap.size ≤ w2.heap.size from Nat.le_trans HSU.out hgr2.size)
    have HB3 := Lib.hid HB2
    have k3 : w2.cell? ⟨g, 2, none⟩ = some (.slice B cb.length capB) := HO2.cell 2 rfl
    have hmin : min cb.length (s.length - k) ≤ cb.length := Nat.min_le_left _ _
    have s3 := cut_l (P := Try.prog) 22 5 1 Try.underlying22 Try.sizeU8 B cb.length capB (min cb.length (s.length - k)) hmin w2
    have HR3 := Lib.hid ((HB.out.bl HB3.out).cutTo 1 (min cb.length (s.length - k)) capB (by intro e; simp; omega))
    clear hown2 hgr2 hsz2 HO2 HB2 e2 k1 k2 s1 s2 HN2
    have HMN := Lib.hid (show min cb.length (s.length - k) ≤ cb.length from hmin)
    have HLT := Lib.hid (chDo_list s cb k hk)
    generalize min cb.length (s.length - k) = mn at s3 hmin HR3 HMN HLT ⊢
    go_wp2_with (at_builtin; go_must (refine append_row rfl _ _ 22 5 (.int .u8 0) 1 1 rfl Try.underlying22 Try.infoU8 rfl (by decide) u.heap.size HN3.out (by rfl) (by rfl) HR3.out (by rw [List.length_drop, List.length_map]; omega) (by intro q hq; exact bv_all cb q (List.mem_of_mem_drop hq)) (by omega) (by omega) HSZ.out ?_); intro v4 w4 hown4 hgr4 hat4)
    go_ret
    obtain ⟨A4, c4, rfl, hc4⟩ := hown4.slice
    have e : (s.take k ++ cb.take (s.length - k) ++ s.drop (k + cb.length)).map bv ++ (cb.map bv).drop (mn * 1) = (chDo s ⟨false, k, cb⟩).map bv := by
      rw [Nat.mul_one, ← List.map_drop, ← List.map_append, HLT.out]; rfl
    rw [e] at hown4
    have hlen : s.length + (cb.length - mn) = (chDo s ⟨false, k, cb⟩).length := by
      have := hown4.len
      rw [List.length_map] at this
      omega
    rw [hlen] at hown4 hc4
    refine ⟨HB3.out.grown hgr4 ?_, A4, c4, by rw [← hlen]; rfl, hc4, hown4.mono HW.out.size⟩
    intro q hq
    have h1 := HN3.out.ge q hq
    have h2 := HW.out.size
    omega
end Go.Proofs.Ythphonkiolmkiaa
