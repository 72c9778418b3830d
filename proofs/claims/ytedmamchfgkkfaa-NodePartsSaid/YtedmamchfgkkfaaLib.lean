/- Words and lemmas that the proofs of this seat share: slices that read as lists, slices that may be appended to, what a world keeps. No program in sight. -/
import Derived.WalkKit
import Derived.WalkSpells
import Derived.WalkLawsBesides
import Derived.Deep.QuietTactic
import Derived.BigQuiet
import Derived.Lib.Hide
import Derived.KernelRfl
import Derived.Deep.DeepCutAuto
import Derived.Deep.RegionHeld3
import Derived.Deep.AppendLies
import Derived.Laws.CopyOwn
import Derived.ArgAppend
namespace Go.Proofs.Ytedmamchfgkkfaa
open Go.RowKit

theorem ret_bool {a b : Bool} (h : a = b) : Ending.returned (.bool a) = .returned (.bool b) := by rw [h]
theorem ret_int {k : IntKind} {a b : Int} (h : a = b) : Ending.returned (.int k a) = .returned (.int k b) := by rw [h]
theorem ret_val {a b : Value} (h : a = b) : Ending.returned a = .returned b := by rw [h]

theorem str_inj {x y : ByteArray} (h : x.toList = y.toList) : x = y := by
  rw [ByteArray.toList_eq, ByteArray.toList_eq] at h
  cases x; cases y
  simp only at h
  rw [Array.toList_inj.1 h]
/-! ### Worlds -/
/-- Some orders have been drawn, no more. -/
def Dr (w w' : World) : Prop := ∃ n, w' = w.drewN n
theorem Dr.refl (w : World) : Dr w w := ⟨0, rfl⟩
theorem Dr.drewN {w w' : World} (h : Dr w w') (n : Nat) : Dr w (w'.drewN n) := by obtain ⟨m, rfl⟩ := h; exact ⟨m + n, World.drewN_drewN ..⟩
theorem Dr.drew {w w' : World} (h : Dr w w') : Dr w w'.drew := by obtain ⟨m, rfl⟩ := h; exact ⟨m + 1, rfl⟩
theorem Dr.trans {a b c : World} (h : Dr a b) (k : Dr b c) : Dr a c := by obtain ⟨m, rfl⟩ := k; exact h.drewN m
theorem Dr.below {w w' : World} (h : Dr w w') (B : Nat) : Below B w w' := by obtain ⟨n, rfl⟩ := h; exact below_drewN (Below.refl _ _) n
/-- All old blocks are as they were. -/
abbrev Bl (w w' : World) : Prop := Below w.heap.size w w'
theorem Bl.refl (w : World) : Bl w w := Below.refl _ _
theorem Bl.trans {a b c : World} (h : Bl a b) (k : Bl b c) : Bl a c := Below.trans h (k.mono h.size)
theorem Bl.alloc {w w' : World} (h : Bl w w') (o : Obj) : Bl w (w'.alloc o) := Below.alloc h h.size o
theorem Bl.drew {w w' : World} (h : Bl w w') : Bl w w'.drew := Below.drew h
theorem Bl.drewN {w w' : World} (h : Bl w w') (n : Nat) : Bl w (w'.drewN n) := below_drewN h n
theorem Bl.setCell {w w' : World} (h : Bl w w') {p : Addr} (hp : w.heap.size ≤ p.block) (u : Value) : Bl w (w'.setCell p u) := Below.setCell h hp u
theorem Bl.grown {w w1 w2 : World} {row : Option Nat} (h : Bl w w1) (hg : w1.grownBy w2 row) (hr : ∀ k, row = some k → w.heap.size ≤ k) : Bl w w2 := Below.grown h hg h.size hr
theorem Bl.heap {w w' : World} (h : Bl w w') {b : Nat} {o : Obj} (hb : w.heap[b]? = some o) : w'.heap[b]? = some o := (h.block b (Array.getElem?_eq_some_iff.1 hb).1).trans hb
theorem Bl.cellAt {w w' : World} (h : Bl w w') {a : Addr} {v : Value} (hc : w.cell? a = some v) : w'.cell? a = some v := (h.cell (World.block_lt_of_cell? w a hc)).trans hc
theorem heap_lt {w : World} {b : Nat} {o : Obj} (hb : w.heap[b]? = some o) : b < w.heap.size := (Array.getElem?_eq_some_iff.1 hb).1
theorem grown_bl {w w1 : World} {row : Option Nat} (h : Bl w w1) : w.grownBy w1 row := ⟨h.os, h.tape, h.output, h.size, fun i hi _ => h.block i hi⟩

/-! ### Cells that read as a list -/
def Rd (w : World) (A : Option Addr) (cs : List Value) : Prop :=
  cs ≠ [] → ∃ b o, A = some ⟨b, o, none⟩ ∧ ∀ j v, cs[j]? = some v → w.cell? ⟨b, o + j, none⟩ = some v
theorem Rd.nil (w : World) (A : Option Addr) : Rd w A [] := fun h => absurd rfl h
theorem Rd.bl {w w' : World} {A : Option Addr} {cs : List Value} (h : Rd w A cs) (k : Bl w w') : Rd w' A cs := fun hn => by
  obtain ⟨b, o, e, hc⟩ := h hn
  exact ⟨b, o, e, fun j v hv => k.cellAt (hc j v hv)⟩
theorem Rd.dr {w w' : World} {A : Option Addr} {cs : List Value} (h : Rd w A cs) (k : Dr w w') : Rd w' A cs := h.bl (k.below _)
theorem Rd.at {w : World} {A : Option Addr} {cs : List Value} (h : Rd w A cs) (i : Nat) (hi : i < cs.length) :
    ∃ b o, A = some ⟨b, o, none⟩ ∧ w.cell? ⟨b, o + i, none⟩ = some cs[i] := by
  obtain ⟨b, o, rfl, hc⟩ := h (by intro h; simp [h] at hi)
  exact ⟨b, o, rfl, hc i _ (by simp [hi])⟩
/-- The same for elements of one cell. -/
theorem Rd.at1 {α : Type} {f : α → Value} {w : World} {A : Option Addr} {xs : List α} (h : Rd w A (xs.map f)) (i : Nat) (hi : i < xs.length) :
    ∃ b o, A = some ⟨b, o, none⟩ ∧ w.cell? ⟨b, o + i, none⟩ = some (f xs[i]) := by
  obtain ⟨b, o, e, hc⟩ := h.at i (by simpa using hi)
  exact ⟨b, o, e, by simpa using hc⟩
theorem Rd.get {α : Type} {f : α → Value} {w : World} {A : Option Addr} {xs : List α} (h : Rd w A (xs.map f)) {i : Nat} {x : α} (hx : xs[i]? = some x) :
    ∃ b o, A = some ⟨b, o, none⟩ ∧ w.cell? ⟨b, o + i, none⟩ = some (f x) := by
  obtain ⟨b, o, rfl, hc⟩ := h (by intro h; have := (List.getElem?_eq_some_iff.1 hx).1; simp at h; simp [h] at this)
  exact ⟨b, o, rfl, hc i _ (by simp [hx])⟩
theorem get_some {α : Type} (xs : List α) (i : Nat) (hi : i < xs.length) : ∃ x, xs[i]? = some x := ⟨xs[i], by simp [hi]⟩
theorem Rd.take {w : World} {A : Option Addr} {cs : List Value} (h : Rd w A cs) (i : Nat) : Rd w A (cs.take i) := fun hn => by
  obtain ⟨b, o, e, hc⟩ := h (fun e => hn (by simp [e]))
  refine ⟨b, o, e, fun j v hv => hc j v ?_⟩
  rw [List.getElem?_take] at hv
  split at hv
  · exact hv
  · cases hv
theorem Rd.drop {w : World} {b o : Nat} {cs : List Value} (h : Rd w (some ⟨b, o, none⟩) cs) (i : Nat) : Rd w (some ⟨b, o + i, none⟩) (cs.drop i) := fun hn => by
  obtain ⟨b', o', e, hc⟩ := h (fun e => hn (by simp [e]))
  cases e
  refine ⟨b, o + i, rfl, fun j v hv => ?_⟩
  rw [List.getElem?_drop] at hv
  rw [Nat.add_assoc]
  exact hc _ v hv
theorem Rd.cells {w : World} {b o : Nat} {cs : List Value} (h : Rd w (some ⟨b, o, none⟩) cs) : ∀ j v, cs[j]? = some v → w.cell? ((⟨b, o, none⟩ : Addr).add j) = some v := fun j v hv => by
  obtain ⟨b', o', e, hc⟩ := h (fun e => by simp [e] at hv)
  cases e
  have ha : (⟨b, o, none⟩ : Addr).add j = ⟨b, o + j, none⟩ := by unfold Addr.add; split <;> simp_all
  rw [ha]; exact hc j v hv
theorem rd_of_block {w : World} {g : Nat} {cur : Array Value} {e : TypeId} {fr : Nat × Nat} (h : w.heap[g]? = some (.cells cur e fr)) (o n : Nat) : Rd w (some ⟨g, o, none⟩) ((cur.toList.drop o).take n) := fun _ => by
  refine ⟨g, o, rfl, fun j v hv => ?_⟩
  rw [cell_of_row w g (o + j) cur e fr h]
  rw [List.getElem?_take] at hv
  split at hv
  · rw [List.getElem?_drop] at hv; simpa using hv
  · cases hv

/-! ### A slice that may be appended to and written: its block is from 'base' on, and not frozen -/
structure App (w : World) (base : Nat) (e : TypeId) (size : Nat) (v : Value) (n : Nat) (cs : List Value) : Prop where
  len : cs.length = n * size
  is : (v = .slice none 0 0 ∧ n = 0) ∨ ∃ g o cap cur, v = .slice (some ⟨g, o, none⟩) n cap ∧ base ≤ g ∧ w.heap[g]? = some (.cells cur e (0, 0)) ∧ n ≤ cap ∧ cap ≤ maxLen ∧ o + cap * size ≤ cur.size ∧ (cur.toList.drop o).take (n * size) = cs
section
variable {w w' : World} {base n : Nat} {e : TypeId} {size : Nat} {v : Value} {cs : List Value}
theorem App.nil (w : World) (base : Nat) (e : TypeId) (size : Nat) : App w base e size (.slice none 0 0) 0 [] := ⟨by simp, .inl ⟨rfl, rfl⟩⟩
theorem App.lt (h : App w base e size v n cs) : ∀ k, v.ownBlock = some k → base ≤ k ∧ k < w.heap.size := by
  intro k hk
  rcases h.is with ⟨rfl, _⟩ | ⟨g, o, cap, cur, rfl, hb, hg, _⟩
  · simp [Value.ownBlock] at hk
  · simp [Value.ownBlock] at hk
    subst hk
    exact ⟨hb, heap_lt hg⟩
theorem App.ge (h : App w base e size v n cs) (k : Nat) (hk : v.ownBlock = some k) : base ≤ k := (h.lt k hk).1
theorem App.mono (h : App w base e size v n cs) {base' : Nat} (hb : base' ≤ base) : App w base' e size v n cs := ⟨h.len, by
  rcases h.is with h | ⟨g, o, cap, cur, e1, hb1, r⟩
  · exact .inl h
  · exact .inr ⟨g, o, cap, cur, e1, Nat.le_trans hb hb1, r⟩⟩
theorem App.kept {row : Option Nat} (h : App w base e size v n cs) (hg : w.grownBy w' row) (hne : v.ownBlock = none ∨ v.ownBlock ≠ row) : App w' base e size v n cs := by
  refine ⟨h.len, ?_⟩
  rcases h.is with hn | ⟨g, o, cap, cur, rfl, hb, hgg, rest⟩
  · exact .inl hn
  · refine .inr ⟨g, o, cap, cur, rfl, hb, ?_, rest⟩
    rw [hg.block g (heap_lt hgg) (by simpa [Value.ownBlock] using hne)]
    exact hgg
theorem App.bl (h : App w base e size v n cs) (hb : Bl w w') : App w' base e size v n cs := h.kept (grown_bl hb (row := none)) (by cases v.ownBlock <;> simp)
theorem App.drew (h : App w base e size v n cs) : App w.drew base e size v n cs := h.bl (Bl.refl w).drew
theorem App.slice (h : App w base e size v n cs) : ∃ A c, v = .slice A n c ∧ n ≤ c := by
  rcases h.is with ⟨rfl, rfl⟩ | ⟨g, o, cap, cur, rfl, _, _, h1, _⟩
  · exact ⟨none, 0, rfl, Nat.le_refl _⟩
  · exact ⟨_, cap, rfl, h1⟩
theorem App.rd {A : Option Addr} {m c : Nat} (h : App w base e size (.slice A m c) n cs) : Rd w A cs ∧ m = n := by
  rcases h.is with ⟨h1, h2⟩ | ⟨g, o, cap, cur, h1, _, hg, _, _, _, hcs⟩
  · cases h1
    have hl := h.len
    subst h2
    obtain rfl : cs = [] := List.eq_nil_of_length_eq_zero (by simpa using hl)
    exact ⟨Rd.nil _ _, rfl⟩
  · cases h1
    subst hcs
    exact ⟨rd_of_block hg o _, rfl⟩
theorem App.at {g o c : Nat} (h : App w base e size (.slice (some ⟨g, o, none⟩) n c) n cs) (i : Nat) (hi : i < cs.length) : w.cell? ⟨g, o + i, none⟩ = some cs[i] := by
  obtain ⟨b, o', h1, h2⟩ := h.rd.1.at i hi
  cases h1
  exact h2
theorem App.frozen {g o c m : Nat} (h : App w base e size (.slice (some ⟨g, o, none⟩) m c) n cs) (i : Nat) : w.frozen? ⟨g, i, none⟩ = false := by
  rcases h.is with ⟨h1, _⟩ | ⟨g', o', cap, cur, h1, _, hg, _⟩
  · cases h1
  · cases h1
    exact frozen_of_row w g i cur e hg
/-- A cell is written. -/
theorem App.store {g o c : Nat} (h : App w base e size (.slice (some ⟨g, o, none⟩) n c) n cs) (i : Nat) (_hi : i < n * size) (u : Value) :
    App (w.setCell ⟨g, o + i, none⟩ u) base e size (.slice (some ⟨g, o, none⟩) n c) n (cs.set i u) ∧ w.grownBy (w.setCell ⟨g, o + i, none⟩ u) (some g) := by
  refine ⟨⟨by rw [List.length_set]; exact h.len, ?_⟩, ⟨rfl, rfl, rfl, by simp [World.setCell], fun k _ hk => heap_setCell_other w _ k u (fun e => hk (by simp [e]))⟩⟩
  rcases h.is with ⟨h1, _⟩ | ⟨g', o', cap, cur, h1, hb, hg, hn, hcm, hsz, hcs⟩
  · cases h1
  · cases h1
    have hnc : n * size ≤ c * size := Nat.mul_le_mul_right _ hn
    refine .inr ⟨g, o, c, _, rfl, hb, heap_setCell_same w g (o + i) cur e u hg, hn, hcm, by simpa using hsz, ?_⟩
    simp only [Array.toList_setIfInBounds]
    rw [List.drop_set, if_neg (by omega), Nat.add_sub_cancel_left, List.take_set, hcs]
/-- What is made new. -/
theorem App.made (w : World) (cur : Array Value) (n : Nat) (hb : base ≤ w.heap.size) (hm : n ≤ maxLen) (hs : cur.size = n * size) :
    App (w.alloc (.cells cur e)) base e size (.slice (some ⟨w.heap.size, 0, none⟩) n n) n cur.toList :=
  ⟨by simpa using hs, .inr ⟨w.heap.size, 0, n, cur, rfl, hb, heap_alloc_new w _, Nat.le_refl _, hm, by omega, by rw [List.drop_zero, List.take_of_length_le (by simpa using Nat.le_of_eq hs)]⟩⟩
/-- x[:k] and x[:k:m]. -/
theorem App.cut {g o cap : Nat} (h : App w base e size (.slice (some ⟨g, o, none⟩) n cap) n cs) (k m : Nat) (hk : k ≤ m) (hm : m ≤ cap) (hkn : k ≤ n) : App w base e size (.slice (some ⟨g, o, none⟩) k m) k (cs.take (k * size)) := by
  rcases h.is with ⟨h1, _⟩ | ⟨g', o', cap', cur, h1, hb, hg, hn, hcm, hsz, hcs⟩
  · cases h1
  · cases h1
    have hkk : k * size ≤ n * size := Nat.mul_le_mul_right _ hkn
    refine ⟨by rw [List.length_take, h.len]; omega, .inr ⟨g, o, m, cur, rfl, hb, hg, hk, by omega, ?_, ?_⟩⟩
    · have : m * size ≤ cap * size := Nat.mul_le_mul_right _ hm
      omega
    · rw [← hcs, List.take_take, Nat.min_eq_left hkk]
end

/-! ### append -/
section
variable {P : Program}
theorem run_append_app (w : World) (t ty e : TypeId) (z : Value) (size bytes : Nat) (ht : P.underlying t = some (.slice e)) (hinfo : (P.info? e).map (fun i => (i.zero, i.size, i.bytes)) = some (some z, size, bytes))
    (hzs : z.cells.size = size) (hsz : 0 < size) (base : Nat) (v : Value) (n : Nat) (cs : List Value) (hown : App w base e size v n cs)
    (A : Option Addr) (m c : Nat) (news : List Value) (hl : news.length = m * size) (hnews : Rd w A news) (h1 : ∀ u ∈ news, u.oneCell' = true)
    (hbytes : (n + m) * bytes ≤ 140737488355328) (hsmall : n + m ≤ 140737488355328) (hbase : base ≤ w.heap.size) :
    ∃ v' w', (Builtin.append_ #[t, t] ty #[v, .slice A m c]).run P w = .ok v' w' ∧ App w' base e size v' (n + m) (cs ++ news) ∧ w.grownBy w' v.ownBlock ∧
      (v'.ownBlock = v.ownBlock ∨ v'.ownBlock = some w.heap.size) := by
  obtain ⟨i, hi, hzz⟩ := Option.map_eq_some_iff.1 hinfo
  simp only [Prod.mk.injEq] at hzz
  obtain ⟨hz, hsize, hby⟩ := hzz
  subst hsize
  subst hby
  have hmax : n + m ≤ maxLen := by simp only [maxLen]; omega
  have hlen : (cs ++ news).length = (n + m) * i.size := by rw [List.length_append, hown.len, hl, Nat.add_mul]
  -- nothing comes in
  by_cases hm : m = 0
  · subst hm
    obtain rfl : news = [] := List.eq_nil_of_length_eq_zero (by simpa using hl)
    refine ⟨v, w, ?_, by simpa using hown, ⟨rfl, rfl, rfl, Nat.le_refl _, fun _ _ _ => rfl⟩, .inl rfl⟩
    rcases hown.is with ⟨rfl, rfl⟩ | ⟨g, o, cap, cur, rfl, _, _, hnc, _⟩
    · cases A <;> simp [Builtin.append_, run_underlying ht, sizeOf, typeInfo, hi, Builtin.lenOf, Builtin.firstCells, loadCells, loadCellsFrom]
    · cases A <;> simp [Builtin.append_, run_underlying ht, sizeOf, typeInfo, hi, Builtin.lenOf, Builtin.firstCells, hnc, loadCells, loadCellsFrom, storeCells]
  have hne : news ≠ [] := by
    intro hn
    rw [hn] at hl
    have : 0 < m * i.size := Nat.mul_pos (by omega) hsz
    simp at hl
    omega
  obtain ⟨bs, os, rfl, _⟩ := hnews hne
  have hnew2 := hnews.cells
  have grown : ∀ (old : Nat), old < n + m → ∀ (row : Option Nat),
      App (w.drew.alloc (.cells (cs.toArray ++ news.toArray ++ Builtin.zeroCells z.cells (grownCap w (n + m) old e - (n + m))) e)) base e i.size
        (.slice (some ⟨w.heap.size, 0, none⟩) (n + m) (grownCap w (n + m) old e)) (n + m) (cs ++ news) ∧
      w.grownBy (w.drew.alloc (.cells (cs.toArray ++ news.toArray ++ Builtin.zeroCells z.cells (grownCap w (n + m) old e - (n + m))) e)) row := by
    intro old ho row
    have hge := grownCap_ge w (n + m) old e
    have hcm : grownCap w (n + m) old e ≤ maxLen := grownCap_le_maxLen w (n + m) old e hmax
    refine ⟨⟨hlen, .inr ⟨w.heap.size, 0, _, _, rfl, hbase, heap_alloc_new w.drew _, hge, hcm, ?_, ?_⟩⟩, ⟨rfl, rfl, rfl, by simp, fun k hk hr => (World.grownBy_alloc w.drew _ row).block k hk hr⟩⟩
    · simp only [Array.size_append, List.size_toArray, size_zeroCells, hzs, hown.len, hl]
      rw [Nat.zero_add, ← Nat.add_mul, ← Nat.add_mul]
      refine Nat.mul_le_mul_right _ ?_
      omega
    · simp only [Array.toList_append, List.append_assoc, List.drop_zero]
      rw [← List.append_assoc, ← hlen]
      exact List.take_left
  rcases hown.is with ⟨rfl, rfl⟩ | ⟨g, o, cap, cur, rfl, hbg, hg, hnc, hcm, hcs, htake⟩
  · obtain rfl : cs = [] := List.eq_nil_of_length_eq_zero (by simpa using hown.len)
    have hr := run_append_nil (P := P) w t ty e i z ht hi hz _ m c news hl hnew2 (by omega) (by omega) (by have hb := hbytes; simp only [Nat.zero_add] at hb; omega)
    have hgr := grown 0 (by omega) (Value.ownBlock (.slice none 0 0))
    simp only [Nat.zero_add, List.nil_append, Array.empty_append] at hgr ⊢
    exact ⟨_, _, hr, hgr.1, hgr.2, .inr rfl⟩
  · by_cases hroom : n + m ≤ cap
    · have hfit : o + n * i.size + 0 + news.length ≤ cur.size := by
        have : (n + m) * i.size ≤ cap * i.size := Nat.mul_le_mul_right _ hroom
        rw [Nat.add_mul] at this
        omega
      have hf := run_firstCells_some (P := P) w i.size m _ m c news hl hnew2
      have hst := run_storeCells_at P g (o + n * i.size) e news 0 cur w hg hfit h1
      have hadd : (⟨g, o, none⟩ : Addr).add (n * i.size) = ⟨g, o + n * i.size, none⟩ := by unfold Addr.add; split <;> simp_all
      refine ⟨.slice (some ⟨g, o, none⟩) (n + m) cap, w.setRow g (cur.toList.take (o + n * i.size) ++ news ++ cur.toList.drop (o + n * i.size + news.length)).toArray, ?_, ⟨hlen, .inr ⟨g, o, cap, _, rfl, hbg, setRow_heap w g cur _ e _ hg, hroom, hcm, ?_, ?_⟩⟩, ⟨rfl, rfl, rfl, by simp, fun k _ hk => setRow_other w g k _ (fun e => hk (by simp [Value.ownBlock, e]))⟩, .inl rfl⟩
      · simp only [Nat.add_zero] at hst
        simp [Builtin.append_, run_underlying ht, sizeOf, typeInfo, hi, Builtin.lenOf, hroom, hf, hadd, hst]
      · simp only [List.size_toArray, List.length_append, List.length_take, List.length_drop, Array.length_toList]
        omega
      · have hcl : cs.length = n * i.size := hown.len
        have e1 : (cur.toList.take (o + n * i.size)).drop o = cs := by
          rw [List.drop_take, ← htake]
          congr 1
          omega
        have hlo : o ≤ (cur.toList.take (o + n * i.size)).length := by rw [List.length_take, Array.length_toList]; omega
        simp only [List.append_assoc]
        rw [List.drop_append_of_le_length hlo, e1, ← List.append_assoc, ← hlen]
        exact List.take_left
    · have holds : ∀ j u, cs[j]? = some u → w.cell? ((⟨g, o, none⟩ : Addr).add j) = some u := (App.rd hown).1.cells
      have hr := run_append_grow (P := P) w t ty e i z ht hi hz ⟨g, o, none⟩ n cap cs hown.len holds _ m c news hl hnew2 (by omega) (by omega) (growslice_fits (by omega) hbytes)
      have hgr := grown cap (by omega) (Value.ownBlock (.slice (some ⟨g, o, none⟩) n cap))
      exact ⟨_, _, hr, hgr.1, hgr.2, .inr rfl⟩

section
variable {o : Oper} {a : Act} {K : Act → World → Prop} {Q : Exit → Act → World → Prop}
theorem wp_append_app {w : World} (s x : Operand) (t e : TypeId) (z : Value) (size bytes : Nat) (ho : o.op = .call { callee := .builtin .append, args := #[s, x], argTypes := #[t, t] })
    (ht : P.underlying t = some (.slice e)) (hinfo : (P.info? e).map (fun i => (i.zero, i.size, i.bytes)) = some (some z, size, bytes)) (hzs : z.cells.size = size) (hsz : 0 < size) (base : Nat)
    (v : Value) (n : Nat) (cs : List Value) (hs : a.eval s = v) (A : Option Addr) (m c : Nat) (hx : a.eval x = .slice A m c) (hown : App w base e size v n cs)
    (news : List Value) (hl : news.length = m * size) (hnews : Rd w A news) (h1 : ∀ u ∈ news, u.oneCell' = true)
    (hbytes : (n + m) * bytes ≤ 140737488355328) (hsmall : n + m ≤ 140737488355328) (hbase : base ≤ w.heap.size)
    (h : ∀ v' w', App w' base e size v' (n + m) (cs ++ news) → w.grownBy w' v.ownBlock → (v'.ownBlock = v.ownBlock ∨ v'.ownBlock = some w.heap.size) → K (a.put o.dst v') w') : o.wp P a w K Q := by
  obtain ⟨v', w', hr, h2, h3, h4⟩ := run_append_app (P := P) w t o.type e z size bytes ht hinfo hzs hsz base v n cs hown A m c news hl hnews h1 hbytes hsmall hbase
  unfold Oper.wp execOp
  simp only [ho, resolve, invoke, builtin, Sem.run_bind, Sem.run_pure, Result.andThen_ok, List.map_toArray, List.map_cons, List.map_nil, hs, hx, hr]
  exact h v' w' h2 h3 h4
/-- append(v, ys...), behind 'at_builtin'. -/
theorem append_row {ops : Array Oper} {rest : List Oper} {w : World} (hgd : o.guard = none) (s x : Operand) (t e : TypeId) (z : Value) (size bytes : Nat) (ho : o.op = .call { callee := .builtin .append, args := #[s, x], argTypes := #[t, t] })
    (ht : P.underlying t = some (.slice e)) (hinfo : (P.info? e).map (fun i => (i.zero, i.size, i.bytes)) = some (some z, size, bytes)) (hzs : z.cells.size = size) (hsz : 0 < size) (base : Nat)
    {v : Value} {n : Nat} {cs : List Value} (hown : App w base e size v n cs) (hs : a.eval s = v) {A : Option Addr} {m c : Nat} (hx : a.eval x = .slice A m c)
    {news : List Value} (hnews : Rd w A news) (hl : news.length = m * size) (h1 : ∀ u ∈ news, u.oneCell' = true)
    (hbytes : (n + m) * bytes ≤ 140737488355328) (hsmall : n + m ≤ 140737488355328) (hbase : base ≤ w.heap.size)
    (h : ∀ v' w', App w' base e size v' (n + m) (cs ++ news) → w.grownBy w' v.ownBlock → (v'.ownBlock = v.ownBlock ∨ v'.ownBlock = some w.heap.size) → wpList P ops Q rest (a.put o.dst v') w') : wpList P ops Q (o :: rest) a w :=
  wpList_plain hgd fun _ hK => wp_append_app s x t e z size bytes ho ht hinfo hzs hsz base v n cs hs A m c hx hown news hl hnews h1 hbytes hsmall hbase fun v' w' h2 h3 h4 => hK _ _ (h v' w' h2 h3 h4)
/-- append(v, y), behind 'at_builtin': the world is that behind the box of y's cells. -/
theorem append_one {ops : Array Oper} {rest : List Oper} {w : World} (hgd : o.guard = none) (s x : Operand) (t e : TypeId) (z : Value) (size bytes : Nat) (ho : o.op = .call { callee := .builtin .append, args := #[s, x], argTypes := #[t, t] })
    (ht : P.underlying t = some (.slice e)) (hinfo : (P.info? e).map (fun i => (i.zero, i.size, i.bytes)) = some (some z, size, bytes)) (hzs : z.cells.size = size) (hsz : 0 < size) (base : Nat)
    {v : Value} {n : Nat} {cs ys : List Value} (hown : App w base e size v n cs) (hs : a.eval s = v) (hx : a.eval x = .slice (some ⟨w.heap.size, 0, none⟩) 1 1)
    (hl : ys.length = size) (h1 : ∀ u ∈ ys, u.oneCell' = true)
    (hbytes : (n + 1) * bytes ≤ 140737488355328) (hsmall : n + 1 ≤ 140737488355328) (hbase : base ≤ w.heap.size)
    (h : ∀ v' w', App w' base e size v' (n + 1) (cs ++ ys) → w.grownBy w' v.ownBlock → (v'.ownBlock = v.ownBlock ∨ ∃ b, v'.ownBlock = some b ∧ w.heap.size ≤ b) → wpList P ops Q rest (a.put o.dst v') w') : wpList P ops Q (o :: rest) a (w.alloc (.cells ys.toArray e)) := by
  refine append_row hgd s x t e z size bytes ho ht hinfo hzs hsz base (hown.bl (Bl.alloc (Bl.refl w) _)) hs hx (news := ys) ?hr (by simpa using hl) h1 hbytes hsmall (by simp; omega) ?_
  case hr =>
    have := rd_of_block (heap_alloc_new w (.cells ys.toArray e)) 0 ys.length
    simpa using this
  · intro v' w' h2 h3 h4
    refine h v' w' h2 (World.grownBy.trans (World.grownBy_alloc w _ _) h3) ?_
    rcases h4 with h4 | h4
    · exact .inl h4
    · exact .inr ⟨_, h4, by simp⟩
end
end
end Go.Proofs.Ytedmamchfgkkfaa
