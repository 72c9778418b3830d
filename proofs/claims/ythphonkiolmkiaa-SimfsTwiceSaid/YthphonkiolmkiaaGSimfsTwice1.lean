/- Texts of the claim SimfsTwice, part 1: Lib, LebSpec, LebB, RefSame, Lib2, Lib3, LebA, LebC, LebD, RefWide, Lib4, SepA. -/
import Derived.WalkKit
import Derived.WalkSpells
import Derived.WalkLawsBesides
import Derived.Deep.QuietTactic
import Derived.BigQuiet
import Derived.Lib.Hide
import Derived.KernelRfl
import Derived.Deep.DeepCutAuto
import Derived.Deep.RegionHeld3
import Derived.Deep.AppendLies
import Derived.Laws.CopyOwn
import Derived.ArgAppend
import Derived.Laws.BitsLemmas
import Derived.Laws.BitsAllLaws
import Derived.Test.YthphonkiolmkiaaRows
import Derived.Laws.BytesArg
import Derived.Great.BuildSlice
/- Words and lemmas that the proofs of this seat share: slices that read as lists, slices that may be appended to, what a world keeps. No program in sight. -/
namespace Go.Proofs.Ythphonkiolmkiaa
open Go.RowKit

theorem ret_bool {a b : Bool} (h : a = b) : Ending.returned (.bool a) = .returned (.bool b) := by rw [h]
theorem ret_int {k : IntKind} {a b : Int} (h : a = b) : Ending.returned (.int k a) = .returned (.int k b) := by rw [h]
theorem ret_val {a b : Value} (h : a = b) : Ending.returned a = .returned b := by rw [h]

theorem str_inj {x y : ByteArray} (h : x.toList = y.toList) : x = y := by
  rw [ByteArray.toList_eq, ByteArray.toList_eq] at h
  cases x; cases y
  simp only at h
  rw [Array.toList_inj.1 h]
/-! ### Worlds -/
/-- Some orders have been drawn, no more. -/
def Dr (w w' : World) : Prop := ∃ n, w' = w.drewN n
theorem Dr.refl (w : World) : Dr w w := ⟨0, rfl⟩
theorem Dr.drewN {w w' : World} (h : Dr w w') (n : Nat) : Dr w (w'.drewN n) := by obtain ⟨m, rfl⟩ := h; exact ⟨m + n, World.drewN_drewN ..⟩
theorem Dr.drew {w w' : World} (h : Dr w w') : Dr w w'.drew := by obtain ⟨m, rfl⟩ := h; exact ⟨m + 1, rfl⟩
theorem Dr.trans {a b c : World} (h : Dr a b) (k : Dr b c) : Dr a c := by obtain ⟨m, rfl⟩ := k; exact h.drewN m
theorem Dr.below {w w' : World} (h : Dr w w') (B : Nat) : Below B w w' := by obtain ⟨n, rfl⟩ := h; exact below_drewN (Below.refl _ _) n
/-- All old blocks are as they were. -/
abbrev Bl (w w' : World) : Prop := Below w.heap.size w w'
theorem Bl.refl (w : World) : Bl w w := Below.refl _ _
theorem Bl.trans {a b c : World} (h : Bl a b) (k : Bl b c) : Bl a c := Below.trans h (k.mono h.size)
theorem Bl.alloc {w w' : World} (h : Bl w w') (o : Obj) : Bl w (w'.alloc o) := Below.alloc h h.size o
theorem Bl.drew {w w' : World} (h : Bl w w') : Bl w w'.drew := Below.drew h
theorem Bl.drewN {w w' : World} (h : Bl w w') (n : Nat) : Bl w (w'.drewN n) := below_drewN h n
theorem Bl.setCell {w w' : World} (h : Bl w w') {p : Addr} (hp : w.heap.size ≤ p.block) (u : Value) : Bl w (w'.setCell p u) := Below.setCell h hp u
theorem Bl.grown {w w1 w2 : World} {row : Option Nat} (h : Bl w w1) (hg : w1.grownBy w2 row) (hr : ∀ k, row = some k → w.heap.size ≤ k) : Bl w w2 := Below.grown h hg h.size hr
theorem Bl.heap {w w' : World} (h : Bl w w') {b : Nat} {o : Obj} (hb : w.heap[b]? = some o) : w'.heap[b]? = some o := (h.block b (Array.getElem?_eq_some_iff.1 hb).1).trans hb
theorem Bl.cellAt {w w' : World} (h : Bl w w') {a : Addr} {v : Value} (hc : w.cell? a = some v) : w'.cell? a = some v := (h.cell (World.block_lt_of_cell? w a hc)).trans hc
theorem heap_lt {w : World} {b : Nat} {o : Obj} (hb : w.heap[b]? = some o) : b < w.heap.size := (Array.getElem?_eq_some_iff.1 hb).1
theorem grown_bl {w w1 : World} {row : Option Nat} (h : Bl w w1) : w.grownBy w1 row := ⟨h.os, h.tape, h.output, h.size, fun i hi _ => h.block i hi⟩

/-! ### Cells that read as a list -/
def Rd (w : World) (A : Option Addr) (cs : List Value) : Prop :=
  cs ≠ [] → ∃ b o, A = some ⟨b, o, none⟩ ∧ ∀ j v, cs[j]? = some v → w.cell? ⟨b, o + j, none⟩ = some v
theorem Rd.nil (w : World) (A : Option Addr) : Rd w A [] := fun h => absurd rfl h
theorem Rd.bl {w w' : World} {A : Option Addr} {cs : List Value} (h : Rd w A cs) (k : Bl w w') : Rd w' A cs := fun hn => by
  obtain ⟨b, o, e, hc⟩ := h hn
  exact ⟨b, o, e, fun j v hv => k.cellAt (hc j v hv)⟩
theorem Rd.dr {w w' : World} {A : Option Addr} {cs : List Value} (h : Rd w A cs) (k : Dr w w') : Rd w' A cs := h.bl (k.below _)
theorem Rd.at {w : World} {A : Option Addr} {cs : List Value} (h : Rd w A cs) (i : Nat) (hi : i < cs.length) :
    ∃ b o, A = some ⟨b, o, none⟩ ∧ w.cell? ⟨b, o + i, none⟩ = some cs[i] := by
  obtain ⟨b, o, rfl, hc⟩ := h (by intro h; simp [h] at hi)
  exact ⟨b, o, rfl, hc i _ (by simp [hi])⟩
/-- The same for elements of one cell. -/
theorem Rd.at1 {α : Type} {f : α → Value} {w : World} {A : Option Addr} {xs : List α} (h : Rd w A (xs.map f)) (i : Nat) (hi : i < xs.length) :
    ∃ b o, A = some ⟨b, o, none⟩ ∧ w.cell? ⟨b, o + i, none⟩ = some (f xs[i]) := by
  obtain ⟨b, o, e, hc⟩ := h.at i (by simpa using hi)
  exact ⟨b, o, e, by simpa using hc⟩
theorem Rd.get {α : Type} {f : α → Value} {w : World} {A : Option Addr} {xs : List α} (h : Rd w A (xs.map f)) {i : Nat} {x : α} (hx : xs[i]? = some x) :
    ∃ b o, A = some ⟨b, o, none⟩ ∧ w.cell? ⟨b, o + i, none⟩ = some (f x) := by
  obtain ⟨b, o, rfl, hc⟩ := h (by intro h; have := (List.getElem?_eq_some_iff.1 hx).1; simp at h; simp [h] at this)
  exact ⟨b, o, rfl, hc i _ (by simp [hx])⟩
theorem get_some {α : Type} (xs : List α) (i : Nat) (hi : i < xs.length) : ∃ x, xs[i]? = some x := ⟨xs[i], by simp [hi]⟩
theorem Rd.take {w : World} {A : Option Addr} {cs : List Value} (h : Rd w A cs) (i : Nat) : Rd w A (cs.take i) := fun hn => by
  obtain ⟨b, o, e, hc⟩ := h (fun e => hn (by simp [e]))
  refine ⟨b, o, e, fun j v hv => hc j v ?_⟩
  rw [List.getElem?_take] at hv
  split at hv
  · exact hv
  · cases hv
theorem Rd.drop {w : World} {b o : Nat} {cs : List Value} (h : Rd w (some ⟨b, o, none⟩) cs) (i : Nat) : Rd w (some ⟨b, o + i, none⟩) (cs.drop i) := fun hn => by
  obtain ⟨b', o', e, hc⟩ := h (fun e => hn (by simp [e]))
  cases e
  refine ⟨b, o + i, rfl, fun j v hv => ?_⟩
  rw [List.getElem?_drop] at hv
  rw [Nat.add_assoc]
  exact hc _ v hv
theorem Rd.cells {w : World} {b o : Nat} {cs : List Value} (h : Rd w (some ⟨b, o, none⟩) cs) : ∀ j v, cs[j]? = some v → w.cell? ((⟨b, o, none⟩ : Addr).add j) = some v := fun j v hv => by
  obtain ⟨b', o', e, hc⟩ := h (fun e => by simp [e] at hv)
  cases e
  have ha : (⟨b, o, none⟩ : Addr).add j = ⟨b, o + j, none⟩ := by unfold Addr.add; split <;> simp_all
  rw [ha]; exact hc j v hv
theorem rd_of_block {w : World} {g : Nat} {cur : Array Value} {e : TypeId} {fr : Nat × Nat} (h : w.heap[g]? = some (.cells cur e fr)) (o n : Nat) : Rd w (some ⟨g, o, none⟩) ((cur.toList.drop o).take n) := fun _ => by
  refine ⟨g, o, rfl, fun j v hv => ?_⟩
  rw [cell_of_row w g (o + j) cur e fr h]
  rw [List.getElem?_take] at hv
  split at hv
  · rw [List.getElem?_drop] at hv; simpa using hv
  · cases hv

/-! ### A slice that may be appended to and written: its block is from 'base' on, and not frozen -/
structure App (w : World) (base : Nat) (e : TypeId) (size : Nat) (v : Value) (n : Nat) (cs : List Value) : Prop where
  len : cs.length = n * size
  is : (v = .slice none 0 0 ∧ n = 0) ∨ ∃ g o cap cur, v = .slice (some ⟨g, o, none⟩) n cap ∧ base ≤ g ∧ w.heap[g]? = some (.cells cur e (0, 0)) ∧ n ≤ cap ∧ cap ≤ maxLen ∧ o + cap * size ≤ cur.size ∧ (cur.toList.drop o).take (n * size) = cs
section
variable {w w' : World} {base n : Nat} {e : TypeId} {size : Nat} {v : Value} {cs : List Value}
theorem App.nil (w : World) (base : Nat) (e : TypeId) (size : Nat) : App w base e size (.slice none 0 0) 0 [] := ⟨by simp, .inl ⟨rfl, rfl⟩⟩
theorem App.lt (h : App w base e size v n cs) : ∀ k, v.ownBlock = some k → base ≤ k ∧ k < w.heap.size := by
  intro k hk
  rcases h.is with ⟨rfl, _⟩ | ⟨g, o, cap, cur, rfl, hb, hg, _⟩
  · simp [Value.ownBlock] at hk
  · simp [Value.ownBlock] at hk
    subst hk
    exact ⟨hb, heap_lt hg⟩
theorem App.ge (h : App w base e size v n cs) (k : Nat) (hk : v.ownBlock = some k) : base ≤ k := (h.lt k hk).1
theorem App.mono (h : App w base e size v n cs) {base' : Nat} (hb : base' ≤ base) : App w base' e size v n cs := ⟨h.len, by
  rcases h.is with h | ⟨g, o, cap, cur, e1, hb1, r⟩
  · exact .inl h
  · exact .inr ⟨g, o, cap, cur, e1, Nat.le_trans hb hb1, r⟩⟩
theorem App.kept {row : Option Nat} (h : App w base e size v n cs) (hg : w.grownBy w' row) (hne : v.ownBlock = none ∨ v.ownBlock ≠ row) : App w' base e size v n cs := by
  refine ⟨h.len, ?_⟩
  rcases h.is with hn | ⟨g, o, cap, cur, rfl, hb, hgg, rest⟩
  · exact .inl hn
  · refine .inr ⟨g, o, cap, cur, rfl, hb, ?_, rest⟩
    rw [hg.block g (heap_lt hgg) (by simpa [Value.ownBlock] using hne)]
    exact hgg
theorem App.bl (h : App w base e size v n cs) (hb : Bl w w') : App w' base e size v n cs := h.kept (grown_bl hb (row := none)) (by cases v.ownBlock <;> simp)
theorem App.drew (h : App w base e size v n cs) : App w.drew base e size v n cs := h.bl (Bl.refl w).drew
theorem App.slice (h : App w base e size v n cs) : ∃ A c, v = .slice A n c ∧ n ≤ c := by
  rcases h.is with ⟨rfl, rfl⟩ | ⟨g, o, cap, cur, rfl, _, _, h1, _⟩
  · exact ⟨none, 0, rfl, Nat.le_refl _⟩
  · exact ⟨_, cap, rfl, h1⟩
theorem App.rd {A : Option Addr} {m c : Nat} (h : App w base e size (.slice A m c) n cs) : Rd w A cs ∧ m = n := by
  rcases h.is with ⟨h1, h2⟩ | ⟨g, o, cap, cur, h1, _, hg, _, _, _, hcs⟩
  · cases h1
    have hl := h.len
    subst h2
    obtain rfl : cs = [] := List.eq_nil_of_length_eq_zero (by simpa using hl)
    exact ⟨Rd.nil _ _, rfl⟩
  · cases h1
    subst hcs
    exact ⟨rd_of_block hg o _, rfl⟩
theorem App.at {g o c : Nat} (h : App w base e size (.slice (some ⟨g, o, none⟩) n c) n cs) (i : Nat) (hi : i < cs.length) : w.cell? ⟨g, o + i, none⟩ = some cs[i] := by
  obtain ⟨b, o', h1, h2⟩ := h.rd.1.at i hi
  cases h1
  exact h2
theorem App.frozen {g o c m : Nat} (h : App w base e size (.slice (some ⟨g, o, none⟩) m c) n cs) (i : Nat) : w.frozen? ⟨g, i, none⟩ = false := by
  rcases h.is with ⟨h1, _⟩ | ⟨g', o', cap, cur, h1, _, hg, _⟩
  · cases h1
  · cases h1
    exact frozen_of_row w g i cur e hg
/-- A cell is written. -/
theorem App.store {g o c : Nat} (h : App w base e size (.slice (some ⟨g, o, none⟩) n c) n cs) (i : Nat) (_hi : i < n * size) (u : Value) :
    App (w.setCell ⟨g, o + i, none⟩ u) base e size (.slice (some ⟨g, o, none⟩) n c) n (cs.set i u) ∧ w.grownBy (w.setCell ⟨g, o + i, none⟩ u) (some g) := by
  refine ⟨⟨by rw [List.length_set]; exact h.len, ?_⟩, ⟨rfl, rfl, rfl, by simp [World.setCell], fun k _ hk => heap_setCell_other w _ k u (fun e => hk (by simp [e]))⟩⟩
  rcases h.is with ⟨h1, _⟩ | ⟨g', o', cap, cur, h1, hb, hg, hn, hcm, hsz, hcs⟩
  · cases h1
  · cases h1
    have hnc : n * size ≤ c * size := Nat.mul_le_mul_right _ hn
    refine .inr ⟨g, o, c, _, rfl, hb, heap_setCell_same w g (o + i) cur e u hg, hn, hcm, by simpa using hsz, ?_⟩
    simp only [Array.toList_setIfInBounds]
    rw [List.drop_set, if_neg (by omega), Nat.add_sub_cancel_left, List.take_set, hcs]
/-- What is made new. -/
theorem App.made (w : World) (cur : Array Value) (n : Nat) (hb : base ≤ w.heap.size) (hm : n ≤ maxLen) (hs : cur.size = n * size) :
    App (w.alloc (.cells cur e)) base e size (.slice (some ⟨w.heap.size, 0, none⟩) n n) n cur.toList :=
  ⟨by simpa using hs, .inr ⟨w.heap.size, 0, n, cur, rfl, hb, heap_alloc_new w _, Nat.le_refl _, hm, by omega, by rw [List.drop_zero, List.take_of_length_le (by simpa using Nat.le_of_eq hs)]⟩⟩
/-- x[:k] and x[:k:m]. -/
theorem App.cut {g o cap : Nat} (h : App w base e size (.slice (some ⟨g, o, none⟩) n cap) n cs) (k m : Nat) (hk : k ≤ m) (hm : m ≤ cap) (hkn : k ≤ n) : App w base e size (.slice (some ⟨g, o, none⟩) k m) k (cs.take (k * size)) := by
  rcases h.is with ⟨h1, _⟩ | ⟨g', o', cap', cur, h1, hb, hg, hn, hcm, hsz, hcs⟩
  · cases h1
  · cases h1
    have hkk : k * size ≤ n * size := Nat.mul_le_mul_right _ hkn
    refine ⟨by rw [List.length_take, h.len]; omega, .inr ⟨g, o, m, cur, rfl, hb, hg, hk, by omega, ?_, ?_⟩⟩
    · have : m * size ≤ cap * size := Nat.mul_le_mul_right _ hm
      omega
    · rw [← hcs, List.take_take, Nat.min_eq_left hkk]
end

/-! ### append -/
section
variable {P : Program}
theorem run_append_app (w : World) (t ty e : TypeId) (z : Value) (size bytes : Nat) (ht : P.underlying t = some (.slice e)) (hinfo : (P.info? e).map (fun i => (i.zero, i.size, i.bytes)) = some (some z, size, bytes))
    (hzs : z.cells.size = size) (hsz : 0 < size) (base : Nat) (v : Value) (n : Nat) (cs : List Value) (hown : App w base e size v n cs)
    (A : Option Addr) (m c : Nat) (news : List Value) (hl : news.length = m * size) (hnews : Rd w A news) (h1 : ∀ u ∈ news, u.oneCell' = true)
    (hbytes : (n + m) * bytes ≤ 140737488355328) (hsmall : n + m ≤ 140737488355328) (hbase : base ≤ w.heap.size) :
    ∃ v' w', (Builtin.append_ #[t, t] ty #[v, .slice A m c]).run P w = .ok v' w' ∧ App w' base e size v' (n + m) (cs ++ news) ∧ w.grownBy w' v.ownBlock ∧
      (v'.ownBlock = v.ownBlock ∨ v'.ownBlock = some w.heap.size) := by
  obtain ⟨i, hi, hzz⟩ := Option.map_eq_some_iff.1 hinfo
  simp only [Prod.mk.injEq] at hzz
  obtain ⟨hz, hsize, hby⟩ := hzz
  subst hsize
  subst hby
  have hmax : n + m ≤ maxLen := by simp only [maxLen]; omega
  have hlen : (cs ++ news).length = (n + m) * i.size := by rw [List.length_append, hown.len, hl, Nat.add_mul]
  -- nothing comes in
  by_cases hm : m = 0
  · subst hm
    obtain rfl : news = [] := List.eq_nil_of_length_eq_zero (by simpa using hl)
    refine ⟨v, w, ?_, by simpa using hown, ⟨rfl, rfl, rfl, Nat.le_refl _, fun _ _ _ => rfl⟩, .inl rfl⟩
    rcases hown.is with ⟨rfl, rfl⟩ | ⟨g, o, cap, cur, rfl, _, _, hnc, _⟩
    · cases A <;> simp [Builtin.append_, run_underlying ht, sizeOf, typeInfo, hi, Builtin.lenOf, Builtin.firstCells, loadCells, loadCellsFrom]
    · cases A <;> simp [Builtin.append_, run_underlying ht, sizeOf, typeInfo, hi, Builtin.lenOf, Builtin.firstCells, hnc, loadCells, loadCellsFrom, storeCells]
  have hne : news ≠ [] := by
    intro hn
    rw [hn] at hl
    have : 0 < m * i.size := Nat.mul_pos (by omega) hsz
    simp at hl
    omega
  obtain ⟨bs, os, rfl, _⟩ := hnews hne
  have hnew2 := hnews.cells
  have grown : ∀ (old : Nat), old < n + m → ∀ (row : Option Nat),
      App (w.drew.alloc (.cells (cs.toArray ++ news.toArray ++ Builtin.zeroCells z.cells (grownCap w (n + m) old e - (n + m))) e)) base e i.size
        (.slice (some ⟨w.heap.size, 0, none⟩) (n + m) (grownCap w (n + m) old e)) (n + m) (cs ++ news) ∧
      w.grownBy (w.drew.alloc (.cells (cs.toArray ++ news.toArray ++ Builtin.zeroCells z.cells (grownCap w (n + m) old e - (n + m))) e)) row := by
    intro old ho row
    have hge := grownCap_ge w (n + m) old e
    have hcm : grownCap w (n + m) old e ≤ maxLen := grownCap_le_maxLen w (n + m) old e hmax
    refine ⟨⟨hlen, .inr ⟨w.heap.size, 0, _, _, rfl, hbase, heap_alloc_new w.drew _, hge, hcm, ?_, ?_⟩⟩, ⟨rfl, rfl, rfl, by simp, fun k hk hr => (World.grownBy_alloc w.drew _ row).block k hk hr⟩⟩
    · simp only [Array.size_append, List.size_toArray, size_zeroCells, hzs, hown.len, hl]
      rw [Nat.zero_add, ← Nat.add_mul, ← Nat.add_mul]
      refine Nat.mul_le_mul_right _ ?_
      omega
    · simp only [Array.toList_append, List.append_assoc, List.drop_zero]
      rw [← List.append_assoc, ← hlen]
      exact List.take_left
  rcases hown.is with ⟨rfl, rfl⟩ | ⟨g, o, cap, cur, rfl, hbg, hg, hnc, hcm, hcs, htake⟩
  · obtain rfl : cs = [] := List.eq_nil_of_length_eq_zero (by simpa using hown.len)
    have hr := run_append_nil (P := P) w t ty e i z ht hi hz _ m c news hl hnew2 (by omega) (by omega) (by have hb := hbytes; simp only [Nat.zero_add] at hb; omega)
    have hgr := grown 0 (by omega) (Value.ownBlock (.slice none 0 0))
    simp only [Nat.zero_add, List.nil_append, Array.empty_append] at hgr ⊢
    exact ⟨_, _, hr, hgr.1, hgr.2, .inr rfl⟩
  · by_cases hroom : n + m ≤ cap
    · have hfit : o + n * i.size + 0 + news.length ≤ cur.size := by
        have : (n + m) * i.size ≤ cap * i.size := Nat.mul_le_mul_right _ hroom
        rw [Nat.add_mul] at this
        omega
      have hf := run_firstCells_some (P := P) w i.size m _ m c news hl hnew2
      have hst := run_storeCells_at P g (o + n * i.size) e news 0 cur w hg hfit h1
      have hadd : (⟨g, o, none⟩ : Addr).add (n * i.size) = ⟨g, o + n * i.size, none⟩ := by unfold Addr.add; split <;> simp_all
      refine ⟨.slice (some ⟨g, o, none⟩) (n + m) cap, w.setRow g (cur.toList.take (o + n * i.size) ++ news ++ cur.toList.drop (o + n * i.size + news.length)).toArray, ?_, ⟨hlen, .inr ⟨g, o, cap, _, rfl, hbg, setRow_heap w g cur _ e _ hg, hroom, hcm, ?_, ?_⟩⟩, ⟨rfl, rfl, rfl, by simp, fun k _ hk => setRow_other w g k _ (fun e => hk (by simp [Value.ownBlock, e]))⟩, .inl rfl⟩
      · simp only [Nat.add_zero] at hst
        simp [Builtin.append_, run_underlying ht, sizeOf, typeInfo, hi, Builtin.lenOf, hroom, hf, hadd, hst]
      · simp only [List.size_toArray, List.length_append, List.length_take, List.length_drop, Array.length_toList]
        omega
      · have hcl : cs.length = n * i.size := hown.len
        have e1 : (cur.toList.take (o + n * i.size)).drop o = cs := by
          rw [List.drop_take, ← htake]
          congr 1
          omega
        have hlo : o ≤ (cur.toList.take (o + n * i.size)).length := by rw [List.length_take, Array.length_toList]; omega
        simp only [List.append_assoc]
        rw [List.drop_append_of_le_length hlo, e1, ← List.append_assoc, ← hlen]
        exact List.take_left
    · have holds : ∀ j u, cs[j]? = some u → w.cell? ((⟨g, o, none⟩ : Addr).add j) = some u := (App.rd hown).1.cells
      have hr := run_append_grow (P := P) w t ty e i z ht hi hz ⟨g, o, none⟩ n cap cs hown.len holds _ m c news hl hnew2 (by omega) (by omega) (growslice_fits (by omega) hbytes)
      have hgr := grown cap (by omega) (Value.ownBlock (.slice (some ⟨g, o, none⟩) n cap))
      exact ⟨_, _, hr, hgr.1, hgr.2, .inr rfl⟩

section
variable {o : Oper} {a : Act} {K : Act → World → Prop} {Q : Exit → Act → World → Prop}
theorem wp_append_app {w : World} (s x : Operand) (t e : TypeId) (z : Value) (size bytes : Nat) (ho : o.op = .call { callee := .builtin .append, args := #[s, x], argTypes := #[t, t] })
    (ht : P.underlying t = some (.slice e)) (hinfo : (P.info? e).map (fun i => (i.zero, i.size, i.bytes)) = some (some z, size, bytes)) (hzs : z.cells.size = size) (hsz : 0 < size) (base : Nat)
    (v : Value) (n : Nat) (cs : List Value) (hs : a.eval s = v) (A : Option Addr) (m c : Nat) (hx : a.eval x = .slice A m c) (hown : App w base e size v n cs)
    (news : List Value) (hl : news.length = m * size) (hnews : Rd w A news) (h1 : ∀ u ∈ news, u.oneCell' = true)
    (hbytes : (n + m) * bytes ≤ 140737488355328) (hsmall : n + m ≤ 140737488355328) (hbase : base ≤ w.heap.size)
    (h : ∀ v' w', App w' base e size v' (n + m) (cs ++ news) → w.grownBy w' v.ownBlock → (v'.ownBlock = v.ownBlock ∨ v'.ownBlock = some w.heap.size) → K (a.put o.dst v') w') : o.wp P a w K Q := by
  obtain ⟨v', w', hr, h2, h3, h4⟩ := run_append_app (P := P) w t o.type e z size bytes ht hinfo hzs hsz base v n cs hown A m c news hl hnews h1 hbytes hsmall hbase
  unfold Oper.wp execOp
  simp only [ho, resolve, invoke, builtin, Sem.run_bind, Sem.run_pure, Result.andThen_ok, List.map_toArray, List.map_cons, List.map_nil, hs, hx, hr]
  exact h v' w' h2 h3 h4
/-- append(v, ys...), behind 'at_builtin'. -/
theorem append_row {ops : Array Oper} {rest : List Oper} {w : World} (hgd : o.guard = none) (s x : Operand) (t e : TypeId) (z : Value) (size bytes : Nat) (ho : o.op = .call { callee := .builtin .append, args := #[s, x], argTypes := #[t, t] })
    (ht : P.underlying t = some (.slice e)) (hinfo : (P.info? e).map (fun i => (i.zero, i.size, i.bytes)) = some (some z, size, bytes)) (hzs : z.cells.size = size) (hsz : 0 < size) (base : Nat)
    {v : Value} {n : Nat} {cs : List Value} (hown : App w base e size v n cs) (hs : a.eval s = v) {A : Option Addr} {m c : Nat} (hx : a.eval x = .slice A m c)
    {news : List Value} (hnews : Rd w A news) (hl : news.length = m * size) (h1 : ∀ u ∈ news, u.oneCell' = true)
    (hbytes : (n + m) * bytes ≤ 140737488355328) (hsmall : n + m ≤ 140737488355328) (hbase : base ≤ w.heap.size)
    (h : ∀ v' w', App w' base e size v' (n + m) (cs ++ news) → w.grownBy w' v.ownBlock → (v'.ownBlock = v.ownBlock ∨ v'.ownBlock = some w.heap.size) → wpList P ops Q rest (a.put o.dst v') w') : wpList P ops Q (o :: rest) a w :=
  wpList_plain hgd fun _ hK => wp_append_app s x t e z size bytes ho ht hinfo hzs hsz base v n cs hs A m c hx hown news hl hnews h1 hbytes hsmall hbase fun v' w' h2 h3 h4 => hK _ _ (h v' w' h2 h3 h4)
/-- append(v, y), behind 'at_builtin': the world is that behind the box of y's cells. -/
theorem append_one {ops : Array Oper} {rest : List Oper} {w : World} (hgd : o.guard = none) (s x : Operand) (t e : TypeId) (z : Value) (size bytes : Nat) (ho : o.op = .call { callee := .builtin .append, args := #[s, x], argTypes := #[t, t] })
    (ht : P.underlying t = some (.slice e)) (hinfo : (P.info? e).map (fun i => (i.zero, i.size, i.bytes)) = some (some z, size, bytes)) (hzs : z.cells.size = size) (hsz : 0 < size) (base : Nat)
    {v : Value} {n : Nat} {cs ys : List Value} (hown : App w base e size v n cs) (hs : a.eval s = v) (hx : a.eval x = .slice (some ⟨w.heap.size, 0, none⟩) 1 1)
    (hl : ys.length = size) (h1 : ∀ u ∈ ys, u.oneCell' = true)
    (hbytes : (n + 1) * bytes ≤ 140737488355328) (hsmall : n + 1 ≤ 140737488355328) (hbase : base ≤ w.heap.size)
    (h : ∀ v' w', App w' base e size v' (n + 1) (cs ++ ys) → w.grownBy w' v.ownBlock → (v'.ownBlock = v.ownBlock ∨ ∃ b, v'.ownBlock = some b ∧ w.heap.size ≤ b) → wpList P ops Q rest (a.put o.dst v') w') : wpList P ops Q (o :: rest) a (w.alloc (.cells ys.toArray e)) := by
  refine append_row hgd s x t e z size bytes ho ht hinfo hzs hsz base (hown.bl (Bl.alloc (Bl.refl w) _)) hs hx (news := ys) ?hr (by simpa using hl) h1 hbytes hsmall (by simp; omega) ?_
  case hr =>
    have := rd_of_block (heap_alloc_new w (.cells ys.toArray e)) 0 ys.length
    simpa using this
  · intro v' w' h2 h3 h4
    refine h v' w' h2 (World.grownBy.trans (World.grownBy_alloc w _ _) h3) ?_
    rcases h4 with h4 | h4
    · exact .inl h4
    · exact .inr ⟨_, h4, by simp⟩
end
end
end Go.Proofs.Ythphonkiolmkiaa
/- The varints of layer 1 as plain functions on lists of bytes, and what they obey. No program in sight. -/
namespace Go.Proofs.Ythphonkiolmkiaa
open Go.RowKit

def bv (b : UInt8) : Value := .int .u8 b.toNat
def wv (n : Nat) : Value := .int .u64 n
def iv (n : Int) : Value := .int .i64 n
def sv (s : ByteArray) : Value := .string s
theorem bv_one (xs : List UInt8) : ∀ u ∈ xs.map bv, u.oneCell' = true := by intro u hu; obtain ⟨q, _, rfl⟩ := List.mem_map.1 hu; rfl
theorem wv_one (xs : List Nat) : ∀ u ∈ xs.map wv, u.oneCell' = true := by intro u hu; obtain ⟨q, _, rfl⟩ := List.mem_map.1 hu; rfl
theorem iv_one (xs : List Int) : ∀ u ∈ xs.map iv, u.oneCell' = true := by intro u hu; obtain ⟨q, _, rfl⟩ := List.mem_map.1 hu; rfl
theorem sv_one (xs : List ByteArray) : ∀ u ∈ xs.map sv, u.oneCell' = true := by intro u hu; obtain ⟨q, _, rfl⟩ := List.mem_map.1 hu; rfl

/-- How many of the first k bytes have the top bit, up to the first that has not. -/
def lead : Nat → List UInt8 → Nat
  | 0, _ => 0
  | _ + 1, [] => 0
  | k + 1, c :: l => if 128 ≤ c.toNat then lead k l + 1 else 0
def vval : List UInt8 → Nat
  | [] => 0
  | c :: l => c.toNat % 128 + 128 * vval l
def lebPut (n : Nat) : List UInt8 := if h : n < 128 then [n.toUInt8] else (n % 128 + 128).toUInt8 :: lebPut (n / 128)
termination_by n
decreasing_by omega
def lebGet (b : List UInt8) (p : Int) : Int × Int × Int :=
  if p < 0 ∨ (b.length : Int) < p then (0, 0, 2) else
  let l := b.drop p.toNat
  let n := lead 9 l
  if n = l.length then (0, 0, 4) else
  let last := (l.getD n 0).toNat
  if (n = 9 ∧ 1 < last) ∨ (0 < n ∧ last = 0) then (0, 0, 5) else (vval (l.take (n + 1)), p + n + 1, 0)

theorem lead_le (k : Nat) (l : List UInt8) : lead k l ≤ k ∧ lead k l ≤ l.length := by
  induction k generalizing l with
  | zero => simp [lead]
  | succ k ih =>
    cases l with
    | nil => simp [lead]
    | cons c l => have := ih l; simp only [lead, List.length_cons]; split <;> omega
theorem lead_at (k : Nat) (l : List UInt8) : ∀ j, j < lead k l → 128 ≤ (l.getD j 0).toNat := by
  induction k generalizing l with
  | zero => intro j hj; simp [lead] at hj
  | succ k ih =>
    cases l with
    | nil => intro j hj; simp [lead] at hj
    | cons c l =>
      intro j hj
      simp only [lead] at hj
      split at hj
      · cases j with
        | zero => simpa
        | succ j => simpa using ih l j (by omega)
      · omega
/-- What stands at the first without the top bit. -/
theorem lead_eq (k m : Nat) (l : List UInt8) (hm : m ≤ k) (hl : m ≤ l.length) (h : ∀ j, j < m → 128 ≤ (l.getD j 0).toNat) (he : m = k ∨ m = l.length ∨ (l.getD m 0).toNat < 128) : lead k l = m := by
  induction k generalizing l m with
  | zero => simp [lead]; omega
  | succ k ih =>
    cases l with
    | nil => simp [lead] at hl ⊢; omega
    | cons c l =>
      cases m with
      | zero =>
        rcases he with he | he | he
        · omega
        · simp at he
        · simp only [lead]; rw [if_neg (by simpa using he)]
      | succ m =>
        have h0 := h 0 (by omega)
        simp only [List.getD_cons_zero] at h0
        simp only [lead]
        rw [if_pos h0, ih m l (by omega) (by simpa using hl) (fun j hj => by simpa using h (j + 1) (by omega)) (by simpa using he)]
theorem vval_append (xs ys : List UInt8) : vval (xs ++ ys) = vval xs + 128 ^ xs.length * vval ys := by
  induction xs with
  | nil => simp [vval]
  | cons c l ih => simp only [List.cons_append, vval, ih, List.length_cons]; rw [Nat.pow_succ, Nat.mul_add, Nat.mul_comm (128 ^ l.length) 128, Nat.mul_assoc]; omega
theorem vval_lt (xs : List UInt8) : vval xs < 128 ^ xs.length := by
  induction xs with
  | nil => simp [vval]
  | cons c l ih => simp only [vval, List.length_cons, Nat.pow_succ]; omega
theorem vval_take_succ (l : List UInt8) (k : Nat) (hk : k < l.length) : vval (l.take (k + 1)) = vval (l.take k) + 128 ^ k * ((l.getD k 0).toNat % 128) := by
  have : l.take (k + 1) = l.take k ++ [l.getD k 0] := by
    rw [List.take_succ_eq_append_getElem hk]; simp [List.getElem?_eq_getElem hk]
  rw [this, vval_append, List.length_take, Nat.min_eq_left (by omega)]
  simp [vval]
theorem vval_take_lt (l : List UInt8) (k : Nat) : vval (l.take k) < 128 ^ k :=
  Nat.lt_of_lt_of_le (vval_lt _) (Nat.pow_le_pow_right (by decide) (List.length_take_le _ _))
/-- v | c << 7k of 64 bits, where v has less than 7k bits. -/
theorem or_shift (v : Nat) (x : UInt8) (k : Nat) (hk : k ≤ 9) (hv : v < 128 ^ k) (h9 : k = 9 → x.toNat % 128 ≤ 1) :
    bits .or .u64 (v : Int) (IntKind.u64.wrap (IntKind.u64.wrap (bits .and .u8 (x.toNat : Int) 127) * 2 ^ (7 * k))) = ((v + 128 ^ k * (x.toNat % 128) : Nat) : Int) := by
  have hp : (128 : Nat) ^ k = 2 ^ (7 * k) := by rw [show (128 : Nat) = 2 ^ 7 from rfl, ← Nat.pow_mul]
  have hx := x.toNat_lt
  have e0 : bits .and .u8 (x.toNat : Int) 127 = ((x.toNat % 128 : Nat) : Int) := by
    have := u8_and_nat x.toNat 127 (by omega) (by decide)
    rw [show ((127 : Nat) : Int) = 127 from rfl] at this
    rw [this, show (127 : Nat) = 2 ^ 7 - 1 from rfl, Nat.and_two_pow_sub_one_eq_mod]
  rw [e0]
  generalize hc : x.toNat % 128 = c at *
  have hc128 : c < 128 := by omega
  have hcb : c * 2 ^ (7 * k) < 2 ^ 64 := by
    rcases Nat.lt_or_ge k 9 with h | h
    · have h1 : (2 : Nat) ^ (7 * k) ≤ 2 ^ 56 := Nat.pow_le_pow_right (by decide) (by omega)
      have h2 : c * 2 ^ (7 * k) ≤ 127 * 2 ^ 56 := Nat.mul_le_mul (by omega) h1
      omega
    · have : k = 9 := by omega
      subst this
      have := h9 rfl
      omega
  have hvb : v < 2 ^ 64 := by
    have h1 : (2 : Nat) ^ (7 * k) ≤ 2 ^ 63 := Nat.pow_le_pow_right (by decide) (by omega)
    omega
  have e1 : IntKind.u64.wrap (IntKind.u64.wrap ((c : Nat) : Int) * 2 ^ (7 * k)) = ((c * 2 ^ (7 * k) : Nat) : Int) := by
    rw [IntWalk.u64_in (c : Int) (by omega)]
    have : ((c : Int) * 2 ^ (7 * k)) = ((c * 2 ^ (7 * k) : Nat) : Int) := by rw [Int.natCast_mul, Int.natCast_pow]; rfl
    rw [this]
    exact IntWalk.u64_in _ (by omega)
  rw [e1, u64_or_nat v (c * 2 ^ (7 * k)) (by omega) (by omega)]
  congr 1
  rw [hp] at hv ⊢
  rw [Nat.mul_comm c, Nat.or_comm, Nat.add_comm v]
  exact (Nat.two_pow_add_eq_or_of_lt hv c).symm
/-- What Get's loop has found at its end. -/
theorem lebGet_out {b : List UInt8} {q k : Nat} {x : UInt8} (hk : k ≤ 9) (hb : b[q + k]? = some x) (h : ∀ j, j < k → 128 ≤ ((b.drop q).getD j 0).toNat) (hx : x.toNat < 128) :
    lebGet b q = (if (k = 9 ∧ 1 < x.toNat) ∨ (0 < k ∧ x.toNat = 0) then (0, 0, 5) else (((vval ((b.drop q).take (k + 1)) : Nat) : Int), (q : Int) + k + 1, 0) : Int × Int × Int) := by
  have hqk := (List.getElem?_eq_some_iff.1 hb).1
  have hd : (b.drop q).getD k 0 = x := by simp [List.getD_eq_getElem?_getD, List.getElem?_drop, hb]
  have hn : lead 9 (b.drop q) = k := lead_eq 9 k _ hk (by rw [List.length_drop]; omega) h (.inr (.inr (by rw [hd]; exact hx)))
  unfold lebGet
  rw [if_neg (by omega)]
  simp only [Int.toNat_natCast]
  rw [hn, if_neg (by rw [List.length_drop]; omega), hd]
theorem lebGet_short {b : List UInt8} {q k : Nat} (hk : k ≤ 9) (hqk : q + k = b.length) (h : ∀ j, j < k → 128 ≤ ((b.drop q).getD j 0).toNat) : lebGet b q = (0, 0, 4) := by
  have hn : lead 9 (b.drop q) = k := lead_eq 9 k _ hk (by rw [List.length_drop]; omega) h (.inr (.inl (by rw [List.length_drop]; omega)))
  unfold lebGet
  rw [if_neg (by omega)]
  simp only [Int.toNat_natCast]
  rw [hn, if_pos (by rw [List.length_drop]; omega)]
theorem lebGet_ten {b : List UInt8} {q : Nat} (hqk : q + 10 ≤ b.length) (h : ∀ j, j < 10 → 128 ≤ ((b.drop q).getD j 0).toNat) : lebGet b q = (0, 0, 5) := by
  have hn : lead 9 (b.drop q) = 9 := lead_eq 9 9 _ (Nat.le_refl _) (by rw [List.length_drop]; omega) (fun j hj => h j (by omega)) (.inl rfl)
  have h9 := h 9 (by omega)
  unfold lebGet
  rw [if_neg (by omega)]
  simp only [Int.toNat_natCast]
  rw [hn, if_neg (by rw [List.length_drop]; omega), if_pos (.inl ⟨rfl, by omega⟩)]
end Go.Proofs.Ythphonkiolmkiaa
namespace Go.Proofs.Ythphonkiolmkiaa
open Go.RowKit
def lebAll (ns : List Nat) : List UInt8 := ns.flatMap lebPut
theorem lebAll_cons (n : Nat) (ns : List Nat) : lebAll (n :: ns) = lebPut n ++ lebAll ns := by simp [lebAll]
theorem lebAll_snoc (ns : List Nat) (n : Nat) : lebAll (ns ++ [n]) = lebAll ns ++ lebPut n := by simp [lebAll]
theorem lebPut_small {n : Nat} (h : n < 128) : lebPut n = [n.toUInt8] := by rw [lebPut]; simp [h]
theorem lebPut_great {n : Nat} (h : ¬ n < 128) : lebPut n = (n % 128 + 128).toUInt8 :: lebPut (n / 128) := by rw [lebPut]; simp [h]
theorem lebPut_len (k : Nat) : ∀ n, n < 128 ^ (k + 1) → (lebPut n).length ≤ k + 1 ∧ 1 ≤ (lebPut n).length := by
  induction k with
  | zero => intro n h; rw [lebPut_small (by simpa using h)]; simp
  | succ k ih =>
    intro n h
    by_cases hn : n < 128
    · rw [lebPut_small hn]; simp
    · rw [lebPut_great hn]
      have := ih (n / 128) (by rw [Nat.div_lt_iff_lt_mul (by decide)]; rwa [Nat.pow_succ] at h)
      simp only [List.length_cons]
      omega
theorem lebPut_ten {n : Nat} (h : n < 2 ^ 64) : (lebPut n).length ≤ 10 ∧ 1 ≤ (lebPut n).length := lebPut_len 9 n (by omega)
theorem lebAll_ten {ns : List Nat} (h : ∀ n ∈ ns, n < 2 ^ 64) : (lebAll ns).length ≤ 10 * ns.length := by
  induction ns with
  | nil => simp [lebAll]
  | cons n ns ih =>
    have h1 := lebPut_ten (h n (by simp))
    have h2 := ih (fun m hm => h m (by simp [hm]))
    rw [lebAll_cons, List.length_append, List.length_cons]
    omega
theorem u8_toNat (n : Nat) (h : n < 256) : (n.toUInt8).toNat = n := by simp; omega
theorem or128 (n : Nat) (_h : n < 2 ^ 64) : bits .or .u8 (IntKind.u8.wrap (n : Int)) 128 = (((n % 128 + 128).toUInt8).toNat : Int) := by
  have e1 : IntKind.u8.wrap (n : Int) = ((n % 256 : Nat) : Int) := by rw [IntKind.wrap_u8]; omega
  rw [e1]
  have := u8_or_nat (n % 256) 128 (by omega) (by decide)
  rw [show ((128 : Nat) : Int) = 128 from rfl] at this
  rw [this, u8_toNat _ (by omega)]
  congr 1
  have h2 : n % 256 = n % 128 + 128 * (n / 128 % 2) := by omega
  have h3 : n / 128 % 2 = 0 ∨ n / 128 % 2 = 1 := by omega
  have h4 : n % 128 < 2 ^ 7 := by omega
  rcases h3 with h3 | h3
  · rw [h2, h3, Nat.mul_zero, Nat.add_zero, Nat.or_comm, show (128 : Nat) = 2 ^ 7 * 1 from rfl, ← Nat.two_pow_add_eq_or_of_lt h4 1, Nat.add_comm]
  · rw [h2, h3, Nat.mul_one]
    have e : n % 128 + 128 = 128 ||| n % 128 := by
      have := Nat.two_pow_add_eq_or_of_lt h4 1
      simpa [Nat.add_comm] using this
    have h5 : n % 128 ||| 128 = n % 128 + 128 := by rw [Nat.or_comm, e]
    rw [show n % 128 + 128 ||| 128 = (n % 128 ||| 128) ||| 128 by rw [h5], Nat.or_assoc, Nat.or_self, h5]
theorem wrap8 (n : Nat) (h : n < 128) : IntKind.u8.wrap (n : Int) = ((n.toUInt8).toNat : Int) := by
  rw [IntKind.wrap_u8, u8_toNat _ (by omega)]; omega
end Go.Proofs.Ythphonkiolmkiaa
namespace Go.Proofs.Ythphonkiolmkiaa
open Go.RowKit
def lebCount (b : List UInt8) (p most : Int) : Int × Int × Int :=
  if (lebGet b p).2.2 ≠ 0 then (0, 0, (lebGet b p).2.2) else if most < 0 ∨ most < (lebGet b p).1 then (0, 0, 3) else lebGet b p
def lebRow (b : List UInt8) (p most : Int) : List UInt8 × Int × Int :=
  if (lebCount b p most).2.2 ≠ 0 then ([], 0, (lebCount b p most).2.2)
  else if (b.length : Int) - (lebCount b p most).2.1 < (lebCount b p most).1 then ([], 0, 4)
  else ((b.drop (lebCount b p most).2.1.toNat).take (lebCount b p most).1.toNat, (lebCount b p most).2.1 + (lebCount b p most).1, 0)
def lebNums (b : List UInt8) : Nat → Int → List Nat → List Nat × Int × Int
  | 0, p, acc => (acc, p, 0)
  | k + 1, p, acc => if (lebGet b p).2.2 ≠ 0 then ([], 0, (lebGet b p).2.2) else lebNums b k (lebGet b p).2.1 (acc ++ [(lebGet b p).1.toNat])
def lebList (b : List UInt8) (p most : Int) : List Nat × Int × Int :=
  if (lebCount b p most).2.2 ≠ 0 then ([], 0, (lebCount b p most).2.2) else lebNums b (lebCount b p most).1.toNat (lebCount b p most).2.1 []
def lebRowPut (b : List UInt8) : List UInt8 := lebPut b.length ++ b
def lebListPut (l : List Nat) : List UInt8 := lebPut l.length ++ lebAll l
/-- What Get may answer. -/
theorem lebGet_cases (b : List UInt8) (p : Int) : (∃ e : Int, lebGet b p = (0, 0, e) ∧ (e = 2 ∨ e = 4 ∨ e = 5)) ∨
    ∃ q k v : Nat, p = q ∧ lebGet b p = ((v : Int), (q : Int) + k + 1, 0) ∧ k ≤ 9 ∧ q + k < b.length ∧ v < 2 ^ 64 ∧ v = vval ((b.drop q).take (k + 1)) ∧ lead 9 (b.drop q) = k ∧ ¬ ((k = 9 ∧ 1 < ((b.drop q).getD k 0).toNat) ∨ (0 < k ∧ ((b.drop q).getD k 0).toNat = 0)) := by
  unfold lebGet
  split
  · exact .inl ⟨2, rfl, .inl rfl⟩
  · rename_i h
    simp only
    split
    · exact .inl ⟨4, rfl, .inr (.inl rfl)⟩
    · rename_i h2
      split
      · exact .inl ⟨5, rfl, .inr (.inr rfl)⟩
      · rename_i h3
        have hl := lead_le 9 (b.drop p.toNat)
        rw [List.length_drop] at h2 hl
        refine .inr ⟨p.toNat, lead 9 (b.drop p.toNat), _, by omega, by rw [Int.toNat_of_nonneg (by omega)], hl.1, by omega, ?_, rfl, rfl, h3⟩
        have hlt : lead 9 (b.drop p.toNat) < (b.drop p.toNat).length := by rw [List.length_drop]; omega
        rw [vval_take_succ _ _ hlt]
        have h4 := vval_take_lt (b.drop p.toNat) (lead 9 (b.drop p.toNat))
        rcases Nat.lt_or_ge (lead 9 (b.drop p.toNat)) 9 with h5 | h5
        · have h6 : 128 ^ (lead 9 (b.drop p.toNat)) ≤ 128 ^ 8 := Nat.pow_le_pow_right (by decide) (by omega)
          have h7 : 128 ^ (lead 9 (b.drop p.toNat)) * (((b.drop p.toNat).getD (lead 9 (b.drop p.toNat)) 0).toNat % 128) ≤ 128 ^ 8 * 127 := Nat.mul_le_mul h6 (by omega)
          omega
        · have h8 : lead 9 (b.drop p.toNat) = 9 := by omega
          rw [h8] at h3 h4 ⊢
          have h9 : ((b.drop p.toNat).getD 9 0).toNat % 128 ≤ 1 := by omega
          have h7 : 128 ^ 9 * (((b.drop p.toNat).getD 9 0).toNat % 128) ≤ 128 ^ 9 * 1 := Nat.mul_le_mul_left _ h9
          omega
/-- The same in short: an error, or a number that fits and a place further on. -/
theorem lebGet_or (b : List UInt8) (p : Int) : (∃ e : Int, lebGet b p = (0, 0, e) ∧ e ≠ 0 ∧ 0 ≤ e ∧ e ≤ 13) ∨ ∃ v m : Nat, lebGet b p = ((v : Int), (m : Int), 0) ∧ v < 2 ^ 64 ∧ m ≤ b.length ∧ p < m ∧ 0 ≤ p := by
  rcases lebGet_cases b p with ⟨e, h, he⟩ | ⟨q, k, v, rfl, h, hk, hl, hv, _⟩
  · exact .inl ⟨e, h, by omega, by omega, by omega⟩
  · exact .inr ⟨v, q + k + 1, by rw [h]; simp, hv, by omega, by omega, by omega⟩
theorem lebCount_or (b : List UInt8) (p most : Int) : (∃ e : Int, lebCount b p most = (0, 0, e) ∧ e ≠ 0 ∧ 0 ≤ e ∧ e ≤ 13) ∨ ∃ v m : Nat, lebCount b p most = ((v : Int), (m : Int), 0) ∧ lebGet b p = ((v : Int), (m : Int), 0) ∧ v < 2 ^ 64 ∧ (v : Int) ≤ most ∧ m ≤ b.length ∧ p < m ∧ 0 ≤ p := by
  rcases lebGet_or b p with ⟨e, h, he, h2⟩ | ⟨v, m, h, hv, hm, hp, h0⟩
  · exact .inl ⟨e, by unfold lebCount; rw [h]; simp [he], he, h2⟩
  · by_cases hmost : most < 0 ∨ most < (v : Int)
    · exact .inl ⟨3, by unfold lebCount; rw [h]; simp [hmost], by omega, by omega, by omega⟩
    · exact .inr ⟨v, m, by unfold lebCount; rw [h]; simp [hmost], h, hv, by omega, hm, hp, h0⟩
end Go.Proofs.Ythphonkiolmkiaa
namespace Go.Proofs.Ythphonkiolmkiaa
open Go.RowKit
theorem lead_succ_of (l : List UInt8) (k n : Nat) (h : ∀ j, j < k → 128 ≤ (l.getD j 0).toNat) (hn : n = k) (hx : 128 ≤ (l.getD k 0).toNat) : ∀ j, j < n + 1 → 128 ≤ (l.getD j 0).toNat := by
  intro j hj
  rcases Nat.lt_or_ge j k with h2 | h2
  · exact h j h2
  · obtain rfl : j = k := by omega
    exact hx
/-- The digits from i on. -/
theorem vval_drop_take (l : List UInt8) (n i : Nat) (hi : i ≤ n) (hn : n < l.length) : vval ((l.drop i).take (n + 1 - i)) = (l.getD i 0).toNat % 128 + 128 * vval ((l.drop (i + 1)).take (n - i)) := by
  have hlt : i < l.length := by omega
  rw [List.drop_eq_getElem_cons hlt, show n + 1 - i = (n - i) + 1 by omega, List.take_succ_cons, vval]
  simp [List.getD_eq_getElem?_getD, List.getElem?_eq_getElem hlt]
theorem vval_bound (l : List UInt8) (n i : Nat) (hi : i ≤ n) (_hn : n < l.length) (hb : vval (l.take (n + 1)) < 2 ^ 64) : vval ((l.drop i).take (n + 1 - i)) < 2 ^ 64 := by
  have h1 : l.take (n + 1) = l.take i ++ (l.drop i).take (n + 1 - i) := by rw [← List.take_add]; congr 1; omega
  rw [h1, vval_append] at hb
  have h2 : 1 ≤ 128 ^ (l.take i).length := Nat.pow_pos (by decide)
  have h3 : 1 * vval ((l.drop i).take (n + 1 - i)) ≤ 128 ^ (l.take i).length * vval ((l.drop i).take (n + 1 - i)) := Nat.mul_le_mul_right _ h2
  omega
end Go.Proofs.Ythphonkiolmkiaa
/- Layer 1 (leb) walked: put. -/
namespace Go.Proofs.Ythphonkiolmkiaa
open Go.RowKit

theorem Try.infoU8 : (Try.prog.info? 5).map (fun i => (i.zero, i.size, i.bytes)) = some (some (.int .u8 0), 1, 1) := by kernel_rfl
theorem Try.infoU64 : (Try.prog.info? 95).map (fun i => (i.zero, i.size, i.bytes)) = some (some (.int .u64 0), 1, 8) := by kernel_rfl
/-- Bytes of the call's own are handed back. -/
def RetBytes (xs : List UInt8) (w : World) (e : Ending) (w' : World) : Prop :=
  ∃ v, e = .returned v ∧ App w' w.heap.size 5 1 v xs.length (xs.map bv) ∧ Bl w w'
theorem RetBytes.mk {xs : List UInt8} {w w' : World} {v : Value} (h : App w' w.heap.size 5 1 v xs.length (xs.map bv)) (hb : Bl w w') : RetBytes xs w (.returned v) w' := ⟨v, rfl, h, hb⟩

end Go.Proofs.Ythphonkiolmkiaa
/- What the references share (stookref00) walked: Same, Ints, Words, Texts. -/
namespace Go.Proofs.Ythphonkiolmkiaa
open Go.RowKit
set_option maxRecDepth 100000
set_option maxHeartbeats 1000000

def RetDr (b : Bool) (w : World) (e : Ending) (w' : World) : Prop := e = .returned (.bool b) ∧ Dr w w'
theorem RetDr.mk {b b' : Bool} {w w' : World} (h : b' = b) (hw : Dr w w') : RetDr b w (.returned (.bool b')) w' := ⟨by rw [h], hw⟩
theorem take_same {α : Type} {xs ys : List α} {k : Nat} {x y : α} (hx : xs[k]? = some x) (hy : ys[k]? = some y) (h : xs.take k = ys.take k) (e : x = y) : xs.take (k + 1) = ys.take (k + 1) := by
  rw [List.take_add_one, List.take_add_one, hx, hy, h, e]
theorem take_other {α : Type} {xs ys : List α} {k : Nat} {x y : α} (hx : xs[k]? = some x) (hy : ys[k]? = some y) (h : ¬ x = y) : ¬ xs = ys := by
  intro e
  rw [e, hy] at hx
  exact h (Option.some.inj hx).symm

theorem same_calls (A B : Option Addr) (c d : Nat) (xs ys : List UInt8) (w : World) (hl : xs.length ≤ 281474976710656) (hx : Rd w A (xs.map bv)) (hy : Rd w B (ys.map bv)) :
    Calls Try.prog 23 #[.slice A xs.length c, .slice B ys.length d] w (RetDr (decide (xs = ys)) w) := by
  have HX := Lib.hid hx
  have HY := Lib.hid hy
  clear hx hy
  by_cases hlen : xs.length = ys.length
  · have H2 := Lib.hid hlen
    have h2 : ((xs.length : Int) != (ys.length : Int)) = false := by rw [bne_eq_false_iff_eq]; omega
    clear hlen
    go_enter Try.func23, Try.ntmps23
    go_wp2_with fail
    go_loopw [5] (fun i wr => ∃ k : Nat, k ≤ xs.length ∧ i = .int .i64 k ∧ Hid (Dr w wr) ∧ Hid (xs.take k = ys.take k)) (fun i _ => xs.length - (intOf i).toNat)
    case atStart => exact ⟨0, by omega, rfl, Dr.refl w, rfl⟩
    case round =>
      obtain ⟨k, hk, rfl, HD, HEQ⟩ := hrel
      by_cases hlt : k < xs.length
      · obtain ⟨x, hx⟩ := get_some xs k hlt
        obtain ⟨y, hy⟩ := get_some ys k (by have := H2.out; omega)
        obtain ⟨b, o, rfl, hcx⟩ := (HX.out.dr HD.out).get hx
        obtain ⟨b', o', rfl, hcy⟩ := (HY.out.dr HD.out).get hy
        have hlt2 : k < ys.length := by have := H2.out; omega
        have HS := Lib.hid (take_same hx hy HEQ.out)
        have HN := Lib.hid (take_other hx hy)
        clear hx hy HEQ
        simp only [bv] at hcx hcy
        by_cases hxy : x = y
        · have hb : ((x.toNat : Int) != (y.toNat : Int)) = false := by subst hxy; simp
          have HXY := Lib.hid hxy
          clear hxy HN
          go_wp2_with fail
          go_quiet (fail)
          go_wp2_with fail
          go_roundw
          case rel => exact ⟨k + 1, by omega, by go_num, HD.out.drewN _, HS.out HXY.out⟩
          case measure => simp [intOf]; omega
        · have hb : ((x.toNat : Int) != (y.toNat : Int)) = true := by rw [bne_iff_ne]; intro e; exact hxy (UInt8.toNat_inj.1 (by omega))
          have HXY := Lib.hid hxy
          clear hxy HS
          go_wp2_with fail
          go_quiet (fail)
          go_wp2_with fail
          go_ret
          exact RetDr.mk (decide_eq_false (HN.out HXY.out)).symm (HD.out.drewN _)
      · have HE : Hid (xs = ys) := by
          have h1 := HEQ.out
          rw [List.take_of_length_le (by omega), List.take_of_length_le (by have := H2.out; omega)] at h1
          exact h1
        go_wp2_with fail
        go_ret
        exact RetDr.mk (decide_eq_true HE.out).symm HD.out
  · have h2 : ((xs.length : Int) != (ys.length : Int)) = true := by rw [bne_iff_ne]; omega
    have HN := Lib.hid (show ¬ xs = ys from fun h => hlen (by rw [h]))
    clear hlen
    go_enter Try.func23, Try.ntmps23
    go_wp2_with fail
    go_ret
    exact RetDr.mk (decide_eq_false HN.out).symm (Dr.refl w)

theorem ints_calls (A B : Option Addr) (c d : Nat) (xs ys : List Int) (w : World) (hl : xs.length ≤ 281474976710656) (hx : Rd w A (xs.map iv)) (hy : Rd w B (ys.map iv)) :
    Calls Try.prog 44 #[.slice A xs.length c, .slice B ys.length d] w (RetDr (decide (xs = ys)) w) := by
  have HX := Lib.hid hx
  have HY := Lib.hid hy
  clear hx hy
  by_cases hlen : xs.length = ys.length
  · have H2 := Lib.hid hlen
    have h2 : ((xs.length : Int) != (ys.length : Int)) = false := by rw [bne_eq_false_iff_eq]; omega
    clear hlen
    go_enter Try.func44, Try.ntmps44
    go_wp2_with fail
    go_loopw [5] (fun i wr => ∃ k : Nat, k ≤ xs.length ∧ i = .int .i64 k ∧ Hid (Dr w wr) ∧ Hid (xs.take k = ys.take k)) (fun i _ => xs.length - (intOf i).toNat)
    case atStart => exact ⟨0, by omega, rfl, Dr.refl w, rfl⟩
    case round =>
      obtain ⟨k, hk, rfl, HD, HEQ⟩ := hrel
      by_cases hlt : k < xs.length
      · obtain ⟨x, hx⟩ := get_some xs k hlt
        obtain ⟨y, hy⟩ := get_some ys k (by have := H2.out; omega)
        obtain ⟨b, o, rfl, hcx⟩ := (HX.out.dr HD.out).get hx
        obtain ⟨b', o', rfl, hcy⟩ := (HY.out.dr HD.out).get hy
        have hlt2 : k < ys.length := by have := H2.out; omega
        have HS := Lib.hid (take_same hx hy HEQ.out)
        have HN := Lib.hid (take_other hx hy)
        clear hx hy HEQ
        simp only [iv] at hcx hcy
        by_cases hxy : x = y
        · have hb : (x != y) = false := by subst hxy; simp
          have HXY := Lib.hid hxy
          clear hxy HN
          go_wp2_with fail
          go_quiet (fail)
          go_wp2_with fail
          go_roundw
          case rel => exact ⟨k + 1, by omega, by go_num, HD.out.drewN _, HS.out HXY.out⟩
          case measure => simp [intOf]; omega
        · have hb : (x != y) = true := by rw [bne_iff_ne]; exact hxy
          have HXY := Lib.hid hxy
          clear hxy HS
          go_wp2_with fail
          go_quiet (fail)
          go_wp2_with fail
          go_ret
          exact RetDr.mk (decide_eq_false (HN.out HXY.out)).symm (HD.out.drewN _)
      · have HE : Hid (xs = ys) := by
          have h1 := HEQ.out
          rw [List.take_of_length_le (by omega), List.take_of_length_le (by have := H2.out; omega)] at h1
          exact h1
        go_wp2_with fail
        go_ret
        exact RetDr.mk (decide_eq_true HE.out).symm HD.out
  · have h2 : ((xs.length : Int) != (ys.length : Int)) = true := by rw [bne_iff_ne]; omega
    have HN := Lib.hid (show ¬ xs = ys from fun h => hlen (by rw [h]))
    clear hlen
    go_enter Try.func44, Try.ntmps44
    go_wp2_with fail
    go_ret
    exact RetDr.mk (decide_eq_false HN.out).symm (Dr.refl w)

theorem texts_calls (A B : Option Addr) (c d : Nat) (xs ys : List ByteArray) (w : World) (hl : xs.length ≤ 281474976710656) (hx : Rd w A (xs.map sv)) (hy : Rd w B (ys.map sv)) :
    Calls Try.prog 31 #[.slice A xs.length c, .slice B ys.length d] w (RetDr (decide (xs = ys)) w) := by
  have HX := Lib.hid hx
  have HY := Lib.hid hy
  clear hx hy
  by_cases hlen : xs.length = ys.length
  · have H2 := Lib.hid hlen
    have h2 : ((xs.length : Int) != (ys.length : Int)) = false := by rw [bne_eq_false_iff_eq]; omega
    clear hlen
    go_enter Try.func31, Try.ntmps31
    go_wp2_with fail
    go_loopw [5] (fun i wr => ∃ k : Nat, k ≤ xs.length ∧ i = .int .i64 k ∧ Hid (Dr w wr) ∧ Hid (xs.take k = ys.take k)) (fun i _ => xs.length - (intOf i).toNat)
    case atStart => exact ⟨0, by omega, rfl, Dr.refl w, rfl⟩
    case round =>
      obtain ⟨k, hk, rfl, HD, HEQ⟩ := hrel
      by_cases hlt : k < xs.length
      · obtain ⟨x, hx⟩ := get_some xs k hlt
        obtain ⟨y, hy⟩ := get_some ys k (by have := H2.out; omega)
        obtain ⟨b, o, rfl, hcx⟩ := (HX.out.dr HD.out).get hx
        obtain ⟨b', o', rfl, hcy⟩ := (HY.out.dr HD.out).get hy
        have hlt2 : k < ys.length := by have := H2.out; omega
        have HS := Lib.hid (take_same hx hy HEQ.out)
        have HN := Lib.hid (take_other hx hy)
        clear hx hy HEQ
        simp only [sv] at hcx hcy
        by_cases hxy : x = y
        · have hb : (!x.toList == y.toList) = false := by subst hxy; simp
          have HXY := Lib.hid hxy
          clear hxy HN
          go_wp2_with fail
          go_quiet (fail)
          go_wp2_with fail
          go_roundw
          case rel => exact ⟨k + 1, by omega, by go_num, HD.out.drewN _, HS.out HXY.out⟩
          case measure => simp [intOf]; omega
        · have hb : (!x.toList == y.toList) = true := by simp only [Bool.not_eq_true', beq_eq_false_iff_ne]; exact fun e => hxy (str_inj e)
          have HXY := Lib.hid hxy
          clear hxy HS
          go_wp2_with fail
          go_quiet (fail)
          go_wp2_with fail
          go_ret
          exact RetDr.mk (decide_eq_false (HN.out HXY.out)).symm (HD.out.drewN _)
      · have HE : Hid (xs = ys) := by
          have h1 := HEQ.out
          rw [List.take_of_length_le (by omega), List.take_of_length_le (by have := H2.out; omega)] at h1
          exact h1
        go_wp2_with fail
        go_ret
        exact RetDr.mk (decide_eq_true HE.out).symm HD.out
  · have h2 : ((xs.length : Int) != (ys.length : Int)) = true := by rw [bne_iff_ne]; omega
    have HN := Lib.hid (show ¬ xs = ys from fun h => hlen (by rw [h]))
    clear hlen
    go_enter Try.func31, Try.ntmps31
    go_wp2_with fail
    go_ret
    exact RetDr.mk (decide_eq_false HN.out).symm (Dr.refl w)
end Go.Proofs.Ythphonkiolmkiaa
/- Words that the proofs of this seat share, more of them: make, copy, cuts of slices. No program in sight. -/
namespace Go.Proofs.Ythphonkiolmkiaa
open Go.RowKit

/-- Where a cut begins. -/
def cutAddr (A : Option Addr) (size l m : Nat) : Option Addr := if m = l then A else A.map (·.add (l * size))
theorem cutAddr_some (b o size l m : Nat) (h : m ≠ l) : cutAddr (some ⟨b, o, none⟩) size l m = some ⟨b, o + l * size, none⟩ := by
  unfold cutAddr
  rw [if_neg h]
  simp only [Option.map_some]
  unfold Addr.add
  split <;> simp_all
theorem cutAddr_zero (A : Option Addr) (size m : Nat) : cutAddr A size 0 m = A := by
  unfold cutAddr
  split
  · rfl
  · cases A <;> simp [Addr.add]
theorem Rd.cut {w : World} {A : Option Addr} {cs : List Value} (h : Rd w A cs) (size l m k : Nat) (hk : m = l → k = 0) : Rd w (cutAddr A size l m) ((cs.drop (l * size)).take k) := by
  by_cases hm : m = l
  · rw [hk hm, List.take_zero]; exact Rd.nil _ _
  · intro hn
    obtain ⟨b, o, rfl, hc⟩ := h (by intro e; simp [e] at hn)
    rw [cutAddr_some b o size l m hm]
    have h2 : Rd w (some ⟨b, o, none⟩) cs := fun _ => ⟨b, o, rfl, hc⟩
    exact ((h2.drop (l * size)).take k) hn
theorem Rd.cutTo {w : World} {A : Option Addr} {cs : List Value} (h : Rd w A cs) (size l m : Nat) (hm : m = l → cs.length ≤ l * size) : Rd w (cutAddr A size l m) (cs.drop (l * size)) := by
  have := h.cut size l m (cs.length - l * size) (fun e => by have := hm e; omega)
  rwa [List.take_of_length_le (by rw [List.length_drop]; exact Nat.le_refl _)] at this
theorem App.cuts {w : World} {base n : Nat} {e : TypeId} {size : Nat} {A : Option Addr} {c : Nat} {cs : List Value} (h : App w base e size (.slice A n c) n cs) (l k m : Nat) (hlk : l ≤ k) (hkm : k ≤ m) (hm : m ≤ c) (hk : k ≤ n) :
    App w base e size (.slice (cutAddr A size l m) (k - l) (m - l)) (k - l) ((cs.drop (l * size)).take ((k - l) * size)) := by
  have hkk : k * size ≤ n * size := Nat.mul_le_mul_right _ hk
  have hll : l * size ≤ k * size := Nat.mul_le_mul_right _ hlk
  have hlen : ((cs.drop (l * size)).take ((k - l) * size)).length = (k - l) * size := by
    rw [List.length_take, List.length_drop, h.len, Nat.sub_mul]; omega
  rcases h.is with ⟨h1, h2⟩ | ⟨g, o, cap, cur, h1, hb, hg, hn, hcm, hsz, hcs⟩
  · cases h1
    have e1 : m = l := by omega
    have e2 : k - l = 0 := by omega
    have e3 : m - l = 0 := by omega
    refine ⟨hlen, .inl ⟨?_, e2⟩⟩
    unfold cutAddr
    rw [if_pos e1, e2, e3]
  · cases h1
    by_cases e1 : m = l
    · have e2 : k - l = 0 := by omega
      have e3 : m - l = 0 := by omega
      refine ⟨hlen, .inr ⟨g, o, m - l, cur, ?_, hb, hg, by omega, by omega, ?_, ?_⟩⟩
      · unfold cutAddr
        rw [if_pos e1]
      · rw [e3]; omega
      · rw [e2]; simp
    · rw [cutAddr_some g o size l m e1]
      have hmm : m * size ≤ c * size := Nat.mul_le_mul_right _ hm
      refine ⟨hlen, .inr ⟨g, o + l * size, m - l, cur, rfl, hb, hg, by omega, by omega, ?_, ?_⟩⟩
      · rw [Nat.sub_mul]
        have : l * size ≤ m * size := Nat.mul_le_mul_right _ (by omega)
        omega
      · rw [← hcs, List.drop_take, List.take_take, List.drop_drop]
        congr 1
        rw [Nat.sub_mul]; omega

section
variable {P : Program} {ops : Array Oper} {rest : List Oper} {o : Oper} {a : Act} {Q : Exit → Act → World → Prop} {w : World}
theorem bounds_l (n c : Nat) (kl : IntKind) (l : Int) (h0 : 0 ≤ l) (h1 : l ≤ n) : (Instr.sliceBounds true n c (some (.int kl l)) none none).run P w = .ok (l.toNat, n, c) w := by
  simp [Instr.sliceBounds, run_sliceBound, h0, h1]
theorem bounds_h (n c : Nat) (kl : IntKind) (l : Int) (h0 : 0 ≤ l) (h1 : l ≤ c) : (Instr.sliceBounds true n c none (some (.int kl l)) none).run P w = .ok (0, l.toNat, c) w := by
  simp [Instr.sliceBounds, run_sliceBound, h0, h1]
theorem bounds_lh (n c : Nat) (kl kh : IntKind) (l h : Int) (h0 : 0 ≤ l) (h1 : l ≤ h) (h2 : h ≤ c) : (Instr.sliceBounds true n c (some (.int kl l)) (some (.int kh h)) none).run P w = .ok (l.toNat, h.toNat, c) w := by
  have eh : (h.toNat : Int) = h := Int.toNat_of_nonneg (by omega)
  simp [Instr.sliceBounds, run_sliceBound, h0, h1, h2, eh, (by omega : 0 ≤ h)]
theorem bounds_hm (n c : Nat) (kh km : IntKind) (h m : Int) (h0 : 0 ≤ h) (h1 : h ≤ m) (h2 : m ≤ c) : (Instr.sliceBounds true n c none (some (.int kh h)) (some (.int km m))).run P w = .ok (0, h.toNat, m.toNat) w := by
  have eh : (m.toNat : Int) = m := Int.toNat_of_nonneg (by omega)
  simp [Instr.sliceBounds, run_sliceBound, h0, h1, h2, eh, (by omega : 0 ≤ m)]
theorem bl_nat (n c : Nat) (kl : IntKind) (l : Nat) (h1 : l ≤ n) : (Instr.sliceBounds true n c (some (.int kl (l : Int))) none none).run P w = .ok (l, n, c) w := bounds_l n c kl l (by omega) (by omega)
theorem bh_nat (n c : Nat) (kl : IntKind) (l : Nat) (h1 : l ≤ c) : (Instr.sliceBounds true n c none (some (.int kl (l : Int))) none).run P w = .ok (0, l, c) w := bounds_h n c kl l (by omega) (by omega)
theorem run_cut (t e : TypeId) (size : Nat) (ht : P.underlying t = some (.slice e)) (hsz : (P.info? e).map (·.size) = some size) (A : Option Addr) (n c : Nat) (lo hi mx : Option Value) (l h m : Nat)
    (hb : (Instr.sliceBounds true n c lo hi mx).run P w = .ok (l, h, m) w) : (Instr.sliceAt t (.slice A n c) lo hi mx).run P w = .ok (.slice (cutAddr A size l m) (h - l) (m - l)) w := by
  have hel : P.elem t = e := by simp [Program.elem, ht]
  have hu : P.underlying t = some (.slice (P.elem t)) := by rw [hel]; exact ht
  rw [run_sliceAt_slice w t _ lo hi mx hu, run_slice_any w t A n c hu, hb]
  obtain ⟨i, hi, hz⟩ := Option.map_eq_some_iff.1 hsz
  simp [Result.andThen, hel, sizeOf, typeInfo, hi, hz, sliced, cutAddr]
/-- A cut of a slice: 'at_cut' by (ho := rfl). -/
theorem cut_step (hgd : o.guard = none) (t e : TypeId) (size : Nat) (x : Operand) (lo hi mx : Option Operand) (ho : o.op = .slice t x lo hi mx) (ht : P.underlying t = some (.slice e)) (hsz : (P.info? e).map (·.size) = some size)
    {A : Option Addr} {n c : Nat} (hx : a.eval x = .slice A n c) (l h m : Nat) (hb : (Instr.sliceBounds true n c (lo.map a.eval) (hi.map a.eval) (mx.map a.eval)).run P w = .ok (l, h, m) w)
    (hk : ∀ A', A' = cutAddr A size l m → wpList P ops Q rest (a.put o.dst (.slice A' (h - l) (m - l))) w) : wpList P ops Q (o :: rest) a w := by
  refine wpList_plain hgd fun K hK => ?_
  have hr := run_cut (P := P) (w := w) t e size ht hsz A n c _ _ _ l h m hb
  unfold Oper.wp
  simp [execOp, ho, hx, hr, Result.andThen]
  exact hK _ _ (hk _ rfl)
/-- append(v, ys...) as a step of a region that draws its order. -/
theorem step_row {ops : Array Oper} {K : Act → World → Prop} {E : Prop} (hgd : o.guard = none) (s x : Operand) (t e : TypeId) (z : Value) (size bytes : Nat) (ho : o.op = .call { callee := .builtin .append, args := #[s, x], argTypes := #[t, t] })
    (ht : P.underlying t = some (.slice e)) (hinfo : (P.info? e).map (fun i => (i.zero, i.size, i.bytes)) = some (some z, size, bytes)) (hzs : z.cells.size = size) (hsz : 0 < size) (base : Nat)
    {v : Value} {n : Nat} {cs : List Value} (hown : App w base e size v n cs) (hs : a.eval s = v) {A : Option Addr} {m c : Nat} (hx : a.eval x = .slice A m c)
    {news : List Value} (hnews : Rd w A news) (hl : news.length = m * size) (h1 : ∀ u ∈ news, u.oneCell' = true)
    (hbytes : (n + m) * bytes ≤ 140737488355328) (hsmall : n + m ≤ 140737488355328) (hbase : base ≤ w.heap.size)
    (h : ∀ v' w', App w' base e size v' (n + m) (cs ++ news) → w.grownBy w' v.ownBlock → (v'.ownBlock = v.ownBlock ∨ v'.ownBlock = some w.heap.size) → K (a.put o.dst v') w') :
    if Region.wanted o (yielded ops a.tmps) = true then Oper.wp P o a w K Q else E := by
  have hw : Region.wanted o (yielded ops a.tmps) = true := by simp [Region.wanted, hgd]
  rw [if_pos hw]
  exact wp_append_app s x t e z size bytes ho ht hinfo hzs hsz base v n cs hs A m c hx hown news hl hnews h1 hbytes hsmall hbase h
/-- make([]T, n). -/
theorem make_step (hgd : o.guard = none) (t e : TypeId) (l c : Operand) (ho : o.op = .makeSlice t l c) (z : Value) (size bytes : Nat) (ht : P.underlying t = some (.slice e)) (hinfo : (P.info? e).map (fun i => (i.zero, i.size, i.bytes)) = some (some z, size, bytes))
    (n : Nat) (kl kc : IntKind) (hl : a.eval l = .int kl n) (hc : a.eval c = .int kc n) (hb : n * bytes ≤ 281474976710656) (hn : n ≤ 281474976710656) (base : Nat) (hbase : base ≤ w.heap.size)
    (h : ∀ w', App w' base e size (.slice (some ⟨w.heap.size, 0, none⟩) n n) n (madeCells z.cells (n * size)).toList → Bl w w' → w'.heap.size = w.heap.size + 1 → wpList P ops Q rest (a.put o.dst (.slice (some ⟨w.heap.size, 0, none⟩) n n)) w') : wpList P ops Q (o :: rest) a w := by
  obtain ⟨i, hi, hzz⟩ := Option.map_eq_some_iff.1 hinfo
  simp only [Prod.mk.injEq] at hzz
  obtain ⟨hz, hsize, hby⟩ := hzz
  subst hsize
  subst hby
  refine wpList_plain hgd fun K hK => ?_
  have hr := run_make (P := P) w t e i z ht hi hz kl kc n n (by omega) (by omega) (by rw [← Int.natCast_mul, Nat.mul_comm]; exact Int.ofNat_le.2 hb) (by omega)
  simp only [Int.toNat_natCast] at hr
  unfold Oper.wp
  simp only [execOp, ho, hl, hc]
  simp [hr, Result.andThen]
  refine hK _ _ (h _ (App.made w _ n hbase (Nat.le_trans hn (by decide)) (by rw [size_madeCells])) ((Bl.refl w).alloc _) (by simp))
/-- copy(d, s): d of the call's own. -/
theorem copy_step (hgd : o.guard = none) (d s : Operand) (dT sT : TypeId) (ho : o.op = .call { callee := .builtin .copy, args := #[d, s], argTypes := #[dT, sT] }) (e : TypeId) (hu : P.underlying dT = some (.slice e)) (hsz : (P.info? e).map (·.size) = some 1)
    {base : Nat} {v : Value} {n : Nat} {ds : List Value} (hown : App w base e 1 v n ds) (hd : a.eval d = v) {A : Option Addr} {m c : Nat} (hs : a.eval s = .slice A m c) {cs : List Value} (hl : cs.length = m) (hr : Rd w A cs) (h1 : ∀ u ∈ cs, u.oneCell' = true)
    (h : ∀ w', App w' base e 1 v n (cs.take n ++ ds.drop m) → w.grownBy w' v.ownBlock → w'.heap.size = w.heap.size → wpList P ops Q rest (a.put o.dst (.int .i64 (min m n : Nat))) w') : wpList P ops Q (o :: rest) a w := by
  have hdl := hown.len
  rw [Nat.mul_one] at hdl
  have hself : w.grownBy w v.ownBlock := ⟨rfl, rfl, rfl, Nat.le_refl _, fun _ _ _ => rfl⟩
  by_cases h0 : min m n = 0
  · obtain ⟨A1, c1, rfl, _⟩ := hown.slice
    refine wpList_copy_nothing hgd d s dT sT ho e hu hsz _ _ _ _ _ _ hd hs h0 ?_
    have := h w ?_ hself rfl
    · rw [h0] at this; exact this
    · rcases Nat.eq_zero_or_pos m with hm | hm
      · subst hm; obtain rfl : cs = [] := List.eq_nil_of_length_eq_zero hl; simpa using hown
      · have hn : n = 0 := by omega
        subst hn
        obtain rfl : ds = [] := List.eq_nil_of_length_eq_zero hdl
        simpa using hown
  · rcases hown.is with ⟨_, hn⟩ | ⟨g, off, cap, cur, rfl, hb, hg, hnc, hcm, hfit, htake⟩
    · omega
    · obtain ⟨bs, os, rfl, _⟩ := hr (by intro e; simp [e] at hl; omega)
      have hk : (cs.take n).length = Nat.min m n := by rw [List.length_take, hl, Nat.min_comm]
      have hk2 : (cs.take n).length = min m n := hk
      refine wpList_copy_own hgd d s dT sT ho e hu hsz g off n cap _ m c hd hs cur e hg (cs.take n) hk (hr.take n).cells (by rw [hk2]; omega) (fun u hu => h1 u (List.mem_of_mem_take hu)) ?_
      rw [hk2]
      have hcl : cur.toList.length = cur.size := Array.length_toList
      refine h _ ⟨?_, .inr ⟨g, off, cap, _, rfl, hb, setRow_heap w g cur _ e _ hg, hnc, hcm, ?_, ?_⟩⟩ ⟨rfl, rfl, rfl, by simp, fun k _ hk => setRow_other w g k _ (fun e => hk (by simp [Value.ownBlock, e]))⟩ (by simp)
      · rw [List.length_append, hk2, List.length_drop, hdl]; omega
      · simp only [List.size_toArray, List.length_append, List.length_take, List.length_drop, hcl, hl]
        omega
      · have hlo : off = (cur.toList.take off).length := by rw [List.length_take, hcl]; omega
        show List.take (n * 1) (List.drop off (List.toArray (List.take off cur.toList ++ (List.take n cs ++ List.drop (off + min m n) cur.toList))).toList) = _
        simp only
        rw [List.drop_append, List.drop_eq_nil_of_le (by omega), List.nil_append, ← hlo, Nat.sub_self, List.drop_zero, Nat.mul_one, List.take_append, List.take_take, Nat.min_self]
        congr 1
        rw [← htake, hk2, Nat.mul_one, List.drop_take, List.drop_drop]
        rcases Nat.le_total m n with hmn | hmn
        · rw [Nat.min_eq_left hmn]
        · rw [Nat.min_eq_right hmn, Nat.sub_self, Nat.sub_eq_zero_of_le hmn]; simp only [List.take_zero]
end
end Go.Proofs.Ythphonkiolmkiaa
/- Words that the proofs of this seat share: bytes and strings, zeros appended to nil. -/
namespace Go.Proofs.Ythphonkiolmkiaa
open Go.RowKit
section
variable {P : Program}
theorem conv_bytes (w : World) (src e dst : TypeId) (hs : P.underlying src = some (.slice e)) (he : P.underlying e = some (.int .u8)) (hd : P.underlying dst = some .string) (A : Option Addr) (c : Nat) (xs : List UInt8) (hr : Rd w A (xs.map bv)) :
    (convert src dst (.slice A xs.length c)).run P w = .ok (.string ⟨xs.toArray⟩) w := by
  have key : strOfNums (xs.map fun b => (b.toNat : Int)) = ⟨xs.toArray⟩ := by
    unfold strOfNums
    rw [List.map_map]
    congr 2
    rw [List.map_congr_left (g := id) (fun x _ => by simp [Function.comp]), List.map_id]
  by_cases hx : xs = []
  · subst hx
    cases A with
    | none => exact run_convert_bytes_nil (P := P) w src e hs he 0 c dst hd
    | some ad =>
      obtain ⟨b, o, s⟩ := ad
      show (convert src dst (.slice (some ⟨b, o, s⟩) 0 c)).run P w = _
      rw [run_convert_bytes_string w src dst e (some ⟨b, o, s⟩) 0 c hs he hd]
      simp [Conv.bytesToString, loadCells, loadCellsFrom]
      rfl
  · obtain ⟨b, o, rfl, hc⟩ := hr (by simpa using hx)
    have := run_convert_bytes_arg (P := P) w src e hs he b o xs.length c (xs.map fun b => (b.toNat : Int)) (by simp) (fun i hi => by
      rw [hc i (bv xs[i]) (by simp [hi])]
      simp [bv, List.getD_eq_getElem?_getD, hi]) dst hd
    rwa [key] at this
/-- append(nil, n zeros). -/
theorem run_append_zeros (w : World) (t ti ty e : TypeId) (z : Value) (size bytes : Nat) (ht : P.underlying t = some (.slice e)) (hti : P.underlying ti = some (.int .i64)) (hinfo : (P.info? e).map (fun i => (i.zero, i.size, i.bytes)) = some (some z, size, bytes))
    (hzs : z.cells.size = size) (hby : 0 < bytes) (base : Nat) (n : Nat) (hn0 : 0 < n) (hb : n * bytes ≤ 281474976710656) (hn : n ≤ 281474976710656) (hbase : base ≤ w.heap.size) :
    ∃ v' w' cap, (Builtin.append_ #[t, ti] ty #[.slice none 0 0, .int .i64 n]).run P w = .ok v' w' ∧ v' = .slice (some ⟨w.heap.size, 0, none⟩) n cap ∧ (∃ cs, App w' base e size v' n cs) ∧ Bl w w' ∧ n ≤ cap := by
  obtain ⟨i, hi, hzz⟩ := Option.map_eq_some_iff.1 hinfo
  simp only [Prod.mk.injEq] at hzz
  obtain ⟨hz, hsize, hbb⟩ := hzz
  subst hsize
  subst hbb
  have hmax : n ≤ maxLen := Nat.le_trans hn (by decide)
  have hge := grownCap_ge w n 0 e
  have hcm := grownCap_le_maxLen w n 0 e hmax
  have wl : IntKind.i64.wrap (n : Int) = n := by rw [IntKind.wrap_i64]; omega
  have n1 : ¬ (n : Int) < 0 := by omega
  have n2 : ¬ (281474976710656 < (n : Int) * (i.bytes : Int)) := by rw [← Int.natCast_mul]; omega
  have n3 : ¬ (9223372036854775807 < (n : Int)) := by omega
  have n4 : ¬ (281474976710656 < Builtin.nextslicecap n 0 * i.bytes) := by rw [nextslicecap_zero hn0]; omega
  have n5 : n ≠ 0 := by omega
  refine ⟨.slice (some ⟨w.heap.size, 0, none⟩) n (grownCap w n 0 e), w.drew.alloc (.cells ((if n * i.size = 0 then #[] else Builtin.zeroCells z.cells n) ++ Builtin.zeroCells z.cells (grownCap w n 0 e - n)) e), grownCap w n 0 e, ?_, rfl, ?_, (Bl.refl w).drew.alloc _, hge⟩
  · by_cases hs0 : i.size = 0
    · simp [Builtin.append_, run_underlying ht, run_underlying hti, sizeOf, typeInfo, zeroValue, hi, hz, asInt, asIntOf, wl, n1, n2, n3, n4, n5, Question.forced, newRow, grownCap, Builtin.firstCells, hs0]
    · have hs1 : n * i.size ≠ 0 := Nat.mul_ne_zero n5 hs0
      simp [Builtin.append_, run_underlying ht, run_underlying hti, sizeOf, typeInfo, zeroValue, hi, hz, asInt, asIntOf, wl, n1, n2, n3, n4, n5, Question.forced, newRow, grownCap, Builtin.firstCells]
      split <;> simp [*]
  · have hsz : ((if n * i.size = 0 then #[] else Builtin.zeroCells z.cells n) ++ Builtin.zeroCells z.cells (grownCap w n 0 e - n)).size = grownCap w n 0 e * i.size := by
      have h1 : (if n * i.size = 0 then (#[] : Array Value) else Builtin.zeroCells z.cells n).size = n * i.size := by
        split
        · rename_i h; simp [h]
        · rw [size_zeroCells, hzs]
      rw [Array.size_append, h1, size_zeroCells, hzs, ← Nat.add_mul]
      congr 1
      omega
    refine ⟨_, ?_, .inr ⟨w.heap.size, 0, grownCap w n 0 e, _, rfl, hbase, heap_alloc_new w.drew _, hge, hcm, by rw [hsz]; omega, rfl⟩⟩
    have : n * i.size ≤ grownCap w n 0 e * i.size := Nat.mul_le_mul_right _ hge
    rw [List.drop_zero, List.length_take, Array.length_toList, hsz]
    omega
end
end Go.Proofs.Ythphonkiolmkiaa
/- Layer 1 (leb) walked: Get. -/
namespace Go.Proofs.Ythphonkiolmkiaa
open Go.RowKit

def RetGet (b : List UInt8) (p : Int) (w : World) (e : Ending) (w' : World) : Prop :=
  e = .returned (.tuple #[.int .u64 (lebGet b p).1, .int .i64 (lebGet b p).2.1, .int .i64 (lebGet b p).2.2]) ∧ Dr w w'
theorem RetGet.mk {b : List UInt8} {p : Int} {w w' : World} {n m e : Int} (h : lebGet b p = (n, m, e)) (hw : Dr w w') : RetGet b p w (.returned (.tuple #[.int .u64 n, .int .i64 m, .int .i64 e])) w' := ⟨by rw [h], hw⟩

end Go.Proofs.Ythphonkiolmkiaa
/- Layer 1 (leb) walked: Put, PutRow, PutList, count. -/
namespace Go.Proofs.Ythphonkiolmkiaa
open Go.RowKit

theorem put_one_rd (w : World) (T : TypeId) (y : Value) : Rd (w.alloc (.cells #[y] T)) (some ⟨w.heap.size, 0, none⟩) [y] := by
  have := rd_of_block (heap_alloc_new w (.cells #[y] T)) 0 1
  simpa using this
def Ret3 (r : Int × Int × Int) (w : World) (e : Ending) (w' : World) : Prop := e = .returned (.tuple #[.int .i64 r.1, .int .i64 r.2.1, .int .i64 r.2.2]) ∧ Dr w w'
theorem Ret3.mk {r : Int × Int × Int} {w w' : World} {n m e : Int} (h : r = (n, m, e)) (hw : Dr w w') : Ret3 r w (.returned (.tuple #[.int .i64 n, .int .i64 m, .int .i64 e])) w' := ⟨by rw [h], hw⟩

end Go.Proofs.Ythphonkiolmkiaa
/- Layer 1 (leb) walked: GetRow, GetList. -/
namespace Go.Proofs.Ythphonkiolmkiaa
open Go.RowKit

theorem Try.sizeU8 : (Try.prog.info? 5).map (·.size) = some 1 := by kernel_rfl
/-- A row, a place, an error. -/
def RetRow (r : List UInt8 × Int × Int) (w : World) (e : Ending) (w' : World) : Prop :=
  ∃ v, e = .returned (.tuple #[v, .int .i64 r.2.1, .int .i64 r.2.2]) ∧ App w' w.heap.size 5 1 v r.1.length (r.1.map bv) ∧ Bl w w'
theorem RetRow.mk {r : List UInt8 × Int × Int} {w w' : World} {v : Value} {xs : List UInt8} {m e : Int} (h : r = (xs, m, e)) (ho : App w' w.heap.size 5 1 v xs.length (xs.map bv)) (hw : Bl w w') : RetRow r w (.returned (.tuple #[v, .int .i64 m, .int .i64 e])) w' := by subst h; exact ⟨v, rfl, ho, hw⟩

/-- A row whose room is its length, a place, an error. -/
def RetRowX (r : List UInt8 × Int × Int) (w : World) (e : Ending) (w' : World) : Prop :=
  ∃ A, e = .returned (.tuple #[.slice A r.1.length r.1.length, .int .i64 r.2.1, .int .i64 r.2.2]) ∧ App w' w.heap.size 5 1 (.slice A r.1.length r.1.length) r.1.length (r.1.map bv) ∧ Bl w w'
theorem RetRowX.mk {r : List UInt8 × Int × Int} {w w' : World} {A : Option Addr} {n : Nat} {xs : List UInt8} {m e : Int} (h : r = (xs, m, e)) (hn : n = xs.length) (ho : App w' w.heap.size 5 1 (.slice A n n) n (xs.map bv)) (hw : Bl w w') : RetRowX r w (.returned (.tuple #[.slice A n n, .int .i64 m, .int .i64 e])) w' := by subst h; subst hn; exact ⟨A, rfl, ho, hw⟩
/-- Numbers, a place, an error. -/
def RetNums (r : List Nat × Int × Int) (w : World) (e : Ending) (w' : World) : Prop :=
  ∃ v, e = .returned (.tuple #[v, .int .i64 r.2.1, .int .i64 r.2.2]) ∧ App w' w.heap.size 95 1 v r.1.length (r.1.map wv) ∧ Bl w w'
theorem RetNums.mk {r : List Nat × Int × Int} {w w' : World} {v : Value} {xs : List Nat} {m e : Int} (h : r = (xs, m, e)) (ho : App w' w.heap.size 95 1 v xs.length (xs.map wv)) (hw : Bl w w') : RetNums r w (.returned (.tuple #[v, .int .i64 m, .int .i64 e])) w' := by subst h; exact ⟨v, rfl, ho, hw⟩

end Go.Proofs.Ythphonkiolmkiaa
/- What the references share (stookref00) and small functions of Go's library walked: Wide, Left, Spoil, CopyInts, texts, bytes.Equal, slices.Equal. -/
namespace Go.Proofs.Ythphonkiolmkiaa
open Go.RowKit
set_option maxRecDepth 100000
set_option maxHeartbeats 1000000

theorem Try.infoInt : (Try.prog.info? 3).map (fun i => (i.zero, i.size, i.bytes)) = some (some (.int .i64 0), 1, 8) := by kernel_rfl
theorem Try.infoStr : (Try.prog.info? 9).map (fun i => (i.zero, i.size, i.bytes)) = some (some (.string .empty), 1, 16) := by kernel_rfl
/-- What Wide made: b, and three bytes 7 behind its end. -/
def IsWide (w : World) (base : Nat) (g : Nat) (b : List UInt8) : Prop := App w base 5 1 (.slice (some ⟨g, 0, none⟩) (b.length + 3) (b.length + 3)) (b.length + 3) ((b ++ [7, 7, 7]).map bv)
theorem IsWide.bl {w w' : World} {base g : Nat} {b : List UInt8} (h : IsWide w base g b) (k : Bl w w') : IsWide w' base g b := App.bl h k
theorem IsWide.kept {w w' : World} {base g : Nat} {b : List UInt8} {row : Option Nat} (h : IsWide w base g b) (k : w.grownBy w' row) (hne : row ≠ some g) : IsWide w' base g b := App.kept h k (.inr (fun e => hne (by simpa [Value.ownBlock] using e.symm)))
theorem IsWide.ge {w : World} {base g : Nat} {b : List UInt8} (h : IsWide w base g b) : base ≤ g ∧ g < w.heap.size := App.lt h g rfl
theorem IsWide.rd {w : World} {base g : Nat} {b : List UInt8} (h : IsWide w base g b) : Rd w (some ⟨g, 0, none⟩) (b.map bv) := by
  have := (App.rd h).1.take b.length
  simpa using this
theorem set_seven (b : List UInt8) (k : Nat) (hk : k < 3) : ((b ++ List.replicate k 7 ++ List.replicate (3 - k) 0).map bv).set (b.length + k) (bv 7) = (b ++ List.replicate (k + 1) 7 ++ List.replicate (3 - (k + 1)) 0).map bv := by
  rw [← List.map_set]
  congr 1
  rw [List.append_assoc, List.append_assoc, List.set_append, if_neg (by omega), Nat.add_sub_cancel_left]
  congr 1
  rcases (by omega : k = 0 ∨ k = 1 ∨ k = 2) with rfl | rfl | rfl <;> simp
def RetWide (b : List UInt8) (w : World) (e : Ending) (w' : World) : Prop := ∃ g, e = .returned (.slice (some ⟨g, 0, none⟩) b.length (b.length + 3)) ∧ IsWide w' w.heap.size g b ∧ Bl w w'
theorem wide_calls (A : Option Addr) (c : Nat) (b : List UInt8) (w : World) (hb : b.length ≤ 140737488351232) (hr : Rd w A (b.map bv)) :
    Calls Try.prog 26 #[.slice A b.length c] w (RetWide b w) := by
  have HR := Lib.hid hr
  clear hr
  go_enter Try.func26, Try.ntmps26
  go_wp2_with (first
    | (at_make; go_must (refine make_step rfl 22 5 _ _ (by rfl) (.int .u8 0) 1 1 Try.underlying22 Try.infoU8 (b.length + 3) _ _ (by rfl) (by rfl) (by omega) (by omega) w.heap.size (by simp) ?_); intro w1 hown hbl1 hsz1)
    | (refine copy_step rfl _ _ 22 22 (by rfl) 5 Try.underlying22 Try.sizeU8 hown (by rfl) (by rfl) (cs := b.map bv) (by simp) (HR.out.bl hbl1) (bv_one _) ?_; intro w2 hown2 hgr2 hsz2))
  have hbl2 := Lib.hid (Bl.grown (Bl.trans (Bl.refl w) hbl1) hgr2 (fun q hq => hown.ge q hq))
  have hz : List.take (b.length + 3) (b.map bv) ++ List.drop b.length (madeCells (Value.int .u8 0).cells ((b.length + 3) * 1)).toList = (b ++ List.replicate 0 7 ++ List.replicate (3 - 0) 0).map bv := by
    rw [List.take_of_length_le (by simp)]
    simp only [List.replicate_zero, List.append_nil, List.map_append]
    congr 1
    show List.drop b.length (madeCells #[Value.int .u8 0] ((b.length + 3) * 1)).toList = _
    rw [toList_madeCells_one, List.drop_replicate, show (b.length + 3) * 1 - b.length = 3 by omega]
    simp [bv]
  rw [hz] at hown2
  clear hz hown hgr2 hbl1
  go_loopw [5] (fun i wr => ∃ k : Nat, k ≤ 3 ∧ i = .int .i64 ((b.length + k : Nat) : Int) ∧ App wr w.heap.size 5 1 (.slice (some ⟨w.heap.size, 0, none⟩) (b.length + 3) (b.length + 3)) (b.length + 3) ((b ++ List.replicate k 7 ++ List.replicate (3 - k) 0).map bv) ∧ Hid (Bl w wr)) (fun i _ => b.length + 3 - (intOf i).toNat)
  case atStart => exact ⟨0, by omega, rfl, hown2, hbl2.out⟩
  case round =>
    obtain ⟨k, hk, rfl, hown3, HB⟩ := hrel
    by_cases hlt : k < 3
    · have hst := hown3.store (b.length + k) (by omega) (bv 7)
      rw [set_seven b k hlt, Nat.zero_add] at hst
      obtain ⟨hst1, hst2⟩ := hst
      have HST1 := Lib.hid hst1
      have HST2 := Lib.hid hst2
      have hc := hown3.at (b.length + k) (by simp; omega)
      have hf := hown3.frozen (b.length + k)
      rw [Nat.zero_add] at hc
      clear hst1 hst2 hown2
      generalize ((b ++ List.replicate k 7 ++ List.replicate (3 - k) 0).map bv)[b.length + k]'(by simp; omega) = x0 at hc
      go_wp2_with fail
      go_roundw
      case rel => exact ⟨k + 1, by omega, by go_num, HST1.out, HB.out.grown HST2.out (fun q hq => by cases hq; exact Nat.le_refl _)⟩
      case measure => simp [intOf]; omega
    · obtain rfl : k = 3 := by omega
      clear hown2
      go_wp2_with (first | (refine cut_step rfl 22 5 1 _ _ _ _ (by rfl) Try.underlying22 Try.sizeU8 (by rfl) 0 b.length (b.length + 3) (bh_nat (b.length + 3) (b.length + 3) _ b.length (by omega)) ?_; intro A1 hA1; rw [cutAddr_zero] at hA1; subst hA1))
      go_ret
      refine ⟨w.heap.size, ?_, ?_, HB.out⟩
      · simp
      · simpa [IsWide] using hown3

/-- Left: what Wide made is as it was. -/
theorem left_calls (g base : Nat) (B : Option Addr) (d : Nat) (b : List UInt8) (w : World) (hb : b.length ≤ 140737488351232) (hw : IsWide w base g b) (hr : Rd w B (b.map bv)) :
    Calls Try.prog 27 #[.slice (some ⟨g, 0, none⟩) b.length (b.length + 3), .slice B b.length d] w (RetDr true w) := by
  have HW := Lib.hid hw
  have HR := Lib.hid hr
  have hat : ∀ j, j < 3 → w.cell? ⟨g, b.length + j, none⟩ = some (.int .u8 7) := fun j hj => by
    have := App.at hw (b.length + j) (by simp; omega)
    rw [Nat.zero_add] at this
    rw [this]
    rcases (by omega : j = 0 ∨ j = 1 ∨ j = 2) with rfl | rfl | rfl <;> simp [bv]
  have h0 := hat 0 (by omega)
  have h1 := hat 1 (by omega)
  have h2 := hat 2 (by omega)
  rw [Nat.add_zero] at h0
  clear hat hw hr
  go_enter Try.func27, Try.ntmps27
  go_wp2_with (first
    | (go_at_call 23; go_must (refine (same_calls _ _ _ _ b b w (by omega) HW.out.rd HR.out).mono ?_); rintro e w' ⟨rfl, n, rfl⟩; simp only [decide_true])
    | (refine cut_step rfl 22 5 1 _ _ _ _ (by rfl) Try.underlying22 Try.sizeU8 (by rfl) 0 (b.length + 3) (b.length + 3) (bounds_h b.length (b.length + 3) _ ((b.length : Int) + 3) (by omega) (by omega)) ?_; intro A1 hA1; rw [cutAddr_zero] at hA1; subst hA1))
  go_ret
  exact RetDr.mk (by simp) ⟨n, rfl⟩

/-- Spoil: writes over a slice of the call's own whose room is its length. -/
theorem spoil_calls (A : Option Addr) (base : Nat) (xs : List UInt8) (by_ : Int) (w : World) (hl : xs.length ≤ 281474976710656) (hown : App w base 5 1 (.slice A xs.length xs.length) xs.length (xs.map bv)) :
    Calls Try.prog 28 #[.slice A xs.length xs.length, .int .u8 by_] w fun e w' => e = .returned (.tuple #[]) ∧ w.grownBy w' (Value.slice A xs.length xs.length).ownBlock := by
  rcases hown.is with ⟨h1, h2⟩ | ⟨g, o, cap, cur, h1, _⟩
  · simp only [Value.slice.injEq] at h1
    obtain ⟨rfl, _, _⟩ := h1
    have hx : xs = [] := List.eq_nil_of_length_eq_zero h2
    subst hx
    clear hown h2 hl
    go_enter Try.func28, Try.ntmps28
    go_wp2_with fail
    refine wp_loop_rounds 1 ?_
    rw [rounds_succ]
    go_wp2_with fail
    go_end0
    exact ⟨rfl, ⟨rfl, rfl, rfl, Nat.le_refl _, fun _ _ _ => rfl⟩⟩
  · simp only [Value.slice.injEq] at h1
    obtain ⟨rfl, _, _⟩ := h1
    have H0 := Lib.hid hown
    clear hown
    go_enter Try.func28, Try.ntmps28
    go_wp2_with (first
      | (refine cut_step rfl 22 5 1 _ _ _ _ (by rfl) Try.underlying22 Try.sizeU8 (by rfl) 0 xs.length xs.length (bh_nat xs.length xs.length _ xs.length (by omega)) ?_; intro A1 hA1; rw [cutAddr_zero] at hA1; subst hA1))
    go_loopw [4] (fun i wr => ∃ (k : Nat) (ys : List UInt8), k ≤ xs.length ∧ i = .int .i64 k ∧ Hid (ys.length = xs.length) ∧ App wr base 5 1 (.slice (some ⟨g, o, none⟩) xs.length xs.length) xs.length (ys.map bv) ∧ Hid (w.grownBy wr (some g))) (fun i _ => xs.length - (intOf i).toNat)
    case atStart => exact ⟨0, xs, by omega, rfl, rfl, H0.out, ⟨rfl, rfl, rfl, Nat.le_refl _, fun _ _ _ => rfl⟩⟩
    case round =>
      obtain ⟨k, ys, hk, rfl, HY, hown, HB⟩ := hrel
      by_cases hlt : k < xs.length
      · obtain ⟨y, hy⟩ := get_some ys k (by rw [HY.out]; exact hlt)
        have hx8 : bits .xor .u8 (y.toNat : Int) by_ = ((UInt8.ofNat (bits .xor .u8 (y.toNat : Int) by_).toNat).toNat : Int) := by
          have h1 : 0 ≤ bits .xor .u8 (y.toNat : Int) by_ ∧ bits .xor .u8 (y.toNat : Int) by_ < 256 := by
            unfold bits
            simp only
            rw [IntKind.wrap_u8]
            omega
          have h2 : (UInt8.ofNat (bits .xor .u8 (y.toNat : Int) by_).toNat).toNat = (bits .xor .u8 (y.toNat : Int) by_).toNat := u8_toNat _ (by omega)
          rw [h2]; omega
        have hst := hown.store k (by omega) (.int .u8 (bits .xor .u8 (y.toNat : Int) by_))
        have hc := hown.at k (by simp [HY.out]; exact hlt)
        have hyk : (ys.map bv)[k]'(by simp [HY.out]; exact hlt) = bv y := by
          obtain ⟨h1, h2⟩ := List.getElem?_eq_some_iff.1 hy
          simp [h2]
        rw [hyk] at hc
        have hset : (ys.map bv).set k (.int .u8 (bits .xor .u8 (y.toNat : Int) by_)) = (ys.set k (UInt8.ofNat (bits .xor .u8 (y.toNat : Int) by_).toNat)).map bv := by
          rw [List.map_set]; congr 1; unfold bv; rw [← hx8]
        rw [hset] at hst
        have HST := Lib.hid hst
        have hf := hown.frozen (o + k)
        clear hst hset hyk hx8 hy
        simp only [bv] at hc
        go_wp2_with fail
        go_roundw
        case rel => exact ⟨k + 1, _, by omega, by go_num, by show _ = _; rw [List.length_set]; exact HY.out, HST.out.1, World.grownBy.trans HB.out HST.out.2⟩
        case measure => simp [intOf]; omega
      · go_wp2_with fail
        go_end0
        exact ⟨rfl, HB.out⟩
end Go.Proofs.Ythphonkiolmkiaa
/- Words that the proofs of this seat share: variables of several cells, and worlds in which only some old blocks have changed. -/
namespace Go.Proofs.Ythphonkiolmkiaa
open Go.RowKit

/-- Of the old blocks only those on the list may have changed. -/
structure Ch (L : List Nat) (w w' : World) : Prop where
  os : w'.os = w.os
  tape : w'.tape = w.tape
  output : w'.output = w.output
  size : w.heap.size ≤ w'.heap.size
  block : ∀ k, k < w.heap.size → k ∉ L → w'.heap[k]? = w.heap[k]?
theorem Ch.refl (L : List Nat) (w : World) : Ch L w w := ⟨rfl, rfl, rfl, Nat.le_refl _, fun _ _ _ => rfl⟩
theorem Bl.ch {w w' : World} (h : Bl w w') (L : List Nat) : Ch L w w' := ⟨h.os, h.tape, h.output, h.size, fun k hk _ => h.block k hk⟩
theorem Ch.bl {L : List Nat} {w w' : World} (h : Ch L w w') (hL : ∀ k ∈ L, w.heap.size ≤ k) : Bl w w' := ⟨h.os, h.tape, h.output, h.size, fun k hk => h.block k hk (fun hm => by have := hL k hm; omega)⟩
theorem Ch.trans {L M : List Nat} {a b c : World} (h : Ch L a b) (k : Ch M b c) (hM : ∀ m ∈ M, m ∈ L ∨ a.heap.size ≤ m) : Ch L a c :=
  ⟨k.os.trans h.os, k.tape.trans h.tape, k.output.trans h.output, Nat.le_trans h.size k.size, fun i hi hl => (k.block i (Nat.lt_of_lt_of_le hi h.size) (fun hm => by rcases hM i hm with h2 | h2; exact hl h2; omega)).trans (h.block i hi hl)⟩
theorem Ch.same {L : List Nat} {a b c : World} (h : Ch L a b) (k : Ch L b c) : Ch L a c := h.trans k (fun _ hm => .inl hm)
theorem Ch.thenBl {L : List Nat} {a b c : World} (h : Ch L a b) (k : Bl b c) : Ch L a c := h.trans (k.ch []) (fun _ hm => by cases hm)
theorem Ch.mono {L M : List Nat} {a b : World} (h : Ch L a b) (hM : ∀ m ∈ L, m ∈ M) : Ch M a b := ⟨h.os, h.tape, h.output, h.size, fun k hk hl => h.block k hk (fun hm => hl (hM k hm))⟩
theorem Ch.grown {row : Option Nat} {w w' : World} (h : w.grownBy w' row) : Ch row.toList w w' := ⟨h.os, h.tape, h.output, h.size, fun k hk hl => h.block k hk (fun e => hl (by rw [← e]; simp))⟩
theorem Ch.toGrown {g : Nat} {w w' : World} (h : Ch [g] w w') : w.grownBy w' (some g) := ⟨h.os, h.tape, h.output, h.size, fun k hk hl => h.block k hk (fun e => hl (by simp at e; rw [e]))⟩
theorem Ch.setCell (w : World) (a : Addr) (v : Value) : Ch [a.block] w (w.setCell a v) := ⟨rfl, rfl, rfl, by simp [World.setCell], fun k _ hk => heap_setCell_other w a k v (fun e => hk (by simp [e]))⟩
theorem Ch.put (w : World) (g i : Nat) (v : Value) : Ch [g] w (w.setCell ⟨g, i, none⟩ v) := Ch.setCell w ⟨g, i, none⟩ v
theorem Ch.setRow (w : World) (g : Nat) (cs : Array Value) : Ch [g] w (w.setRow g cs) := ⟨rfl, rfl, rfl, by simp, fun k _ hk => setRow_other w g k cs (fun e => hk (by simp [e]))⟩
theorem Ch.drew {L : List Nat} {w w' : World} (h : Ch L w w') : Ch L w w'.drew := ⟨h.os, h.tape, h.output, h.size, h.block⟩
theorem Ch.drewN {L : List Nat} {w w' : World} (h : Ch L w w') (n : Nat) : Ch L w (w'.drewN n) := ⟨h.os, h.tape, h.output, h.size, h.block⟩
theorem Ch.alloc {L : List Nat} {w w' : World} (h : Ch L w w') (o : Obj) : Ch L w (w'.alloc o) := h.thenBl ((Bl.refl _).alloc o)

/-- A variable's block. -/
def Ob (w : World) (g : Nat) (T : TypeId) (cs : Array Value) : Prop := w.heap[g]? = some (.cells cs T (0, 0))
theorem Ob.lt {w : World} {g : Nat} {T : TypeId} {cs : Array Value} (h : Ob w g T cs) : g < w.heap.size := heap_lt h
theorem Ob.bl {w w' : World} {g : Nat} {T : TypeId} {cs : Array Value} (h : Ob w g T cs) (k : Bl w w') : Ob w' g T cs := k.heap h
theorem Ob.ch {L : List Nat} {w w' : World} {g : Nat} {T : TypeId} {cs : Array Value} (h : Ob w g T cs) (k : Ch L w w') (hg : g ∉ L) : Ob w' g T cs := (k.block g h.lt hg).trans h
theorem Ob.new (w : World) (cs : Array Value) (T : TypeId) : Ob (w.alloc (.cells cs T)) w.heap.size T cs := heap_alloc_new w _
theorem Ob.cell {w : World} {g : Nat} {T : TypeId} {cs : Array Value} (h : Ob w g T cs) (i : Nat) {v : Value} (hv : cs[i]? = some v) : w.cell? ⟨g, i, none⟩ = some v := (cell_of_row w g i cs T (0, 0) h).trans hv
theorem Ob.free {w : World} {g : Nat} {T : TypeId} {cs : Array Value} (h : Ob w g T cs) (i : Nat) : w.frozen? ⟨g, i, none⟩ = false := frozen_of_row w g i cs T h
theorem Ob.set {w : World} {g : Nat} {T : TypeId} {cs : Array Value} (h : Ob w g T cs) (i : Nat) (v : Value) : Ob (w.setCell ⟨g, i, none⟩ v) g T (cs.setIfInBounds i v) := heap_setCell_same w g i cs T v h
theorem Ob.set4 {w : World} {g : Nat} {T : TypeId} {a0 a1 a2 a3 : Value} (h : Ob w g T #[a0, a1, a2, a3]) (b0 b1 b2 b3 : Value) :
    Ob ((((w.setCell ⟨g, 0, none⟩ b0).setCell ⟨g, 1, none⟩ b1).setCell ⟨g, 2, none⟩ b2).setCell ⟨g, 3, none⟩ b3) g T #[b0, b1, b2, b3] ∧ Ch [g] w ((((w.setCell ⟨g, 0, none⟩ b0).setCell ⟨g, 1, none⟩ b1).setCell ⟨g, 2, none⟩ b2).setCell ⟨g, 3, none⟩ b3) := by
  refine ⟨?_, (((Ch.put w g 0 b0).same (Ch.put _ g 1 b1)).same (Ch.put _ g 2 b2)).same (Ch.put _ g 3 b3)⟩
  have := (((h.set 0 b0).set 1 b1).set 2 b2).set 3 b3
  simpa using this
theorem Ob.all4 {w : World} {g : Nat} {T : TypeId} {a0 a1 a2 a3 : Value} (h : Ob w g T #[a0, a1, a2, a3]) :
    w.cell? ⟨g, 0, none⟩ = some a0 ∧ w.cell? ⟨g, 1, none⟩ = some a1 ∧ w.cell? ⟨g, 2, none⟩ = some a2 ∧ w.cell? ⟨g, 3, none⟩ = some a3 ∧ w.frozen? ⟨g, 0, none⟩ = false ∧ w.frozen? ⟨g, 1, none⟩ = false ∧ w.frozen? ⟨g, 2, none⟩ = false ∧ w.frozen? ⟨g, 3, none⟩ = false :=
  ⟨h.cell 0 rfl, h.cell 1 rfl, h.cell 2 rfl, h.cell 3 rfl, h.free 0, h.free 1, h.free 2, h.free 3⟩
theorem Ob.row {w : World} {g : Nat} {T : TypeId} {old cs : Array Value} (h : Ob w g T old) : Ob (w.setRow g cs) g T cs := setRow_heap w g old cs T _ h
theorem Ob.app {w : World} {g : Nat} {T : TypeId} {cs : Array Value} {base n : Nat} {e : TypeId} {size : Nat} {v : Value} {xs : List Value} (h : Ob w g T cs) (k : App w base e size v n xs) (hne : T ≠ e) : v.ownBlock ≠ some g := by
  rcases k.is with ⟨rfl, _⟩ | ⟨g', o, cap, cur, rfl, _, hg, _⟩
  · simp [Value.ownBlock]
  · intro e1
    simp [Value.ownBlock] at e1
    subst e1
    have h2 : w.heap[g']? = some (.cells cs T (0, 0)) := h
    rw [h2] at hg
    injection hg with hg
    injection hg with _ ht
    exact hne ht
theorem App.ch {w w' : World} {base n : Nat} {e : TypeId} {size : Nat} {v : Value} {cs : List Value} {L : List Nat} (h : App w base e size v n cs) (k : Ch L w w') (hne : ∀ g ∈ L, v.ownBlock ≠ some g) : App w' base e size v n cs := by
  refine ⟨h.len, ?_⟩
  rcases h.is with hn | ⟨g, o, cap, cur, rfl, hb, hgg, rest⟩
  · exact .inl hn
  · exact .inr ⟨g, o, cap, cur, rfl, hb, (k.block g (heap_lt hgg) (fun hm => hne g hm rfl)).trans hgg, rest⟩
theorem Rd.ch {w w' : World} {A : Option Addr} {cs : List Value} {L : List Nat} (h : Rd w A cs) (k : Ch L w w') (hA : ∀ a, A = some a → a.block ∉ L) : Rd w' A cs := fun hn => by
  obtain ⟨b, o, rfl, hc⟩ := h hn
  refine ⟨b, o, rfl, fun j v hv => ?_⟩
  have h1 := hc j v hv
  rw [World.cell?_of_block (k.block b (World.block_lt_of_cell? w _ h1) (hA _ rfl))]
  exact h1
/-- A slice that was readable in a world lies apart from what was made behind it. -/
theorem Rd.apart {w : World} {A : Option Addr} {cs : List Value} (h : Rd w A cs) (hn : cs ≠ []) : ∀ a, A = some a → a.block < w.heap.size := by
  intro a ha
  obtain ⟨b, o, e, hc⟩ := h hn
  rw [e] at ha
  cases ha
  cases hcs : cs with
  | nil => exact absurd hcs hn
  | cons v l => exact World.block_lt_of_cell? w _ (hc 0 v (by simp [hcs]))
/-- What was readable stays so while only blocks that are newer than it change. -/
theorem Rd.later {w w1 w2 : World} {A : Option Addr} {cs : List Value} {L : List Nat} (h : Rd w A cs) (k1 : Bl w w1) (k2 : Ch L w1 w2) (hL : ∀ g ∈ L, w.heap.size ≤ g) : Rd w2 A cs :=
  h.bl ((k1.ch L).same k2 |>.bl hL)

section
variable {P : Program} {ops : Array Oper} {rest : List Oper} {o : Oper} {a : Act} {Q : Exit → Act → World → Prop} {w : World} {K : Act → World → Prop}
/-- The whole of a variable is written. -/
theorem ob_store (hgd : o.guard = none) (ty : TypeId) (x y : Operand) (ho : o.op = .store ty x y) {g : Nat} {T : TypeId} {old : Array Value} (hg : Ob w g T old) (hx : a.eval x = .pointer (some ⟨g, 0, none⟩)) {cells : Array Value} (hy : a.eval y = .agg cells)
    (hi : (P.info? ty).map (·.size) = some cells.size) (hold : old.size = cells.size) (h1 : cells.all (·.oneCell') = true)
    (h : ∀ w', Ob w' g T cells → Ch [g] w w' → w'.heap.size = w.heap.size → wpList P ops Q rest (a.put o.dst undef) w') : wpList P ops Q (o :: rest) a w :=
  wpList_store_row hgd ty x y ho g cells hx hy T old hg hi hold h1 (h _ hg.row (Ch.setRow w g cells) (by simp))
theorem ob_step_store {E : Prop} (hgd : o.guard = none) (ty : TypeId) (x y : Operand) (ho : o.op = .store ty x y) {g : Nat} {T : TypeId} {old : Array Value} (hg : Ob w g T old) (hx : a.eval x = .pointer (some ⟨g, 0, none⟩)) {cells : Array Value} (hy : a.eval y = .agg cells)
    (hi : (P.info? ty).map (·.size) = some cells.size) (hold : old.size = cells.size) (h1 : cells.all (·.oneCell') = true)
    (h : ∀ w', Ob w' g T cells → Ch [g] w w' → w'.heap.size = w.heap.size → K (a.put o.dst undef) w') : if Region.wanted o (yielded ops a.tmps) = true then Oper.wp P o a w K Q else E := by
  rw [if_pos (by simp [Region.wanted, hgd])]
  exact wp_store_row ty x y ho g cells hx hy T old hg hi hold h1 (h _ hg.row (Ch.setRow w g cells) (by simp))
/-- The whole of a variable is read. -/
theorem ob_load (hgd : o.guard = none) (ty : TypeId) (x : Operand) (ho : o.op = .load ty x) {g : Nat} {T : TypeId} {cs : Array Value} (hg : Ob w g T cs) (hx : a.eval x = .pointer (some ⟨g, 0, none⟩)) {d : TypeDesc}
    (hu : P.underlying ty = some d) (hd : (match d with | .struct _ | .array _ _ => true | _ => false) = true) (hi : (P.info? ty).map (·.size) = some cs.size)
    (h : wpList P ops Q rest (a.put o.dst (.agg cs)) w) : wpList P ops Q (o :: rest) a w := wpList_load_row hgd ty x ho g hx T cs (0, 0) d hg hu hd hi h
/-- One cell of a variable is written. -/
theorem ob_put (hgd : o.guard = none) (ty : TypeId) (x y : Operand) (ho : o.op = .store ty x y) {g i : Nat} {T : TypeId} {cs : Array Value} (hg : Ob w g T cs) (hx : a.eval x = .pointer (some ⟨g, i, none⟩)) {v : Value} (hy : a.eval y = v) (hv : v.oneCell' = true)
    (hi : (P.info? ty).map (·.size) = some 1) (hlt : i < cs.size)
    (h : ∀ w', Ob w' g T (cs.setIfInBounds i v) → Ch [g] w w' → w'.heap.size = w.heap.size → wpList P ops Q rest (a.put o.dst undef) w') : wpList P ops Q (o :: rest) a w := by
  refine wpList_plain hgd fun K hK => ?_
  have hst := run_storeCells_at P g i T [v] 0 cs w hg (by simp; omega) (fun u hu => by simp at hu; subst hu; exact hv)
  obtain ⟨inf, hinf, hs⟩ := Option.map_eq_some_iff.1 hi
  have hcv : v.cells = #[v] := by cases v <;> first | rfl | cases hv
  have hrun : (storeVar ty ⟨g, i, none⟩ v).run P w = .ok () (w.setRow g (cs.toList.take (i + 0) ++ [v] ++ cs.toList.drop (i + 0 + [v].length)).toArray) := by
    simp [storeVar, hcv, sizeOf, typeInfo, hinf, hs, hst]
  have hset : (cs.toList.take (i + 0) ++ [v] ++ cs.toList.drop (i + 0 + [v].length)).toArray = cs.setIfInBounds i v := by
    apply Array.ext'
    simp only [Nat.add_zero, List.length_singleton, List.append_assoc, List.singleton_append, Array.toList_setIfInBounds]
    rw [List.set_eq_take_append_cons_drop, if_pos (by simpa using hlt)]
  rw [hset] at hrun
  unfold Oper.wp execOp
  simp only [ho, hx, hy, Instr.storeAt, Instr.sureAddr, Sem.run_bind, Sem.run_pure, Result.andThen_ok, hrun]
  exact hK _ _ (h _ hg.row (Ch.setRow w g _) (by simp))
end
/-- A struct's variable and one value are handed back. -/
theorem results_ct {P : Program} {fn : Func} {p q : Tmp} {ty : TypeId} (h : fn.results = #[.cell p ty, .tmp q]) (tmps : Array Value) (w : World) {g : Nat} {T : TypeId} {cs : Array Value} {d : TypeDesc} (hg : Ob w g T cs)
    (hp : tmps.getD p undef = .pointer (some ⟨g, 0, none⟩)) {v : Value} (hq : tmps.getD q undef = v)
    (hu : P.underlying ty = some d) (hd : (match d with | .struct _ | .array _ _ => true | _ => false) = true) (hi : (P.info? ty).map (·.size) = some cs.size) :
    (results fn tmps).run P w = .ok (.tuple #[.agg cs, v]) w := by
  have hp' : tmps[p]?.getD undef = .pointer (some ⟨g, 0, none⟩) := by simpa using hp
  have hq' : tmps[q]?.getD undef = v := by simpa using hq
  simp [results, h, hp', hq', asAddr, run_loadVar_row w g T ty cs (0, 0) d hg hu hd hi]
theorem results_c {P : Program} {fn : Func} {p : Tmp} {ty : TypeId} (h : fn.results = #[.cell p ty]) (tmps : Array Value) (w : World) {g : Nat} {T : TypeId} {cs : Array Value} {d : TypeDesc} (hg : Ob w g T cs)
    (hp : tmps.getD p undef = .pointer (some ⟨g, 0, none⟩))
    (hu : P.underlying ty = some d) (hd : (match d with | .struct _ | .array _ _ => true | _ => false) = true) (hi : (P.info? ty).map (·.size) = some cs.size) :
    (results fn tmps).run P w = .ok (.agg cs) w := results_cell_row h tmps w g T cs (0, 0) d hp hg hu hd hi
theorem results_ctct {P : Program} {fn : Func} {p q p2 q2 : Tmp} {ty : TypeId} (h : fn.results = #[.cell p ty, .tmp q, .cell p2 ty, .tmp q2]) (tmps : Array Value) (w : World) {g g2 : Nat} {T T2 : TypeId} {cs cs2 : Array Value} {d : TypeDesc} (hg : Ob w g T cs) (hg2 : Ob w g2 T2 cs2)
    (hp : tmps.getD p undef = .pointer (some ⟨g, 0, none⟩)) {v : Value} (hq : tmps.getD q undef = v) (hp2 : tmps.getD p2 undef = .pointer (some ⟨g2, 0, none⟩)) {v2 : Value} (hq2 : tmps.getD q2 undef = v2)
    (hu : P.underlying ty = some d) (hd : (match d with | .struct _ | .array _ _ => true | _ => false) = true) (hi : (P.info? ty).map (·.size) = some cs.size) (hi2 : (P.info? ty).map (·.size) = some cs2.size) :
    (results fn tmps).run P w = .ok (.tuple #[.agg cs, v, .agg cs2, v2]) w := by
  have hp' : tmps[p]?.getD undef = .pointer (some ⟨g, 0, none⟩) := by simpa using hp
  have hq' : tmps[q]?.getD undef = v := by simpa using hq
  have hp2' : tmps[p2]?.getD undef = .pointer (some ⟨g2, 0, none⟩) := by simpa using hp2
  have hq2' : tmps[q2]?.getD undef = v2 := by simpa using hq2
  simp [results, h, hp', hq', hp2', hq2', asAddr, run_loadVar_row w g T ty cs (0, 0) d hg hu hd hi, run_loadVar_row w g2 T2 ty cs2 (0, 0) d hg2 hu hd hi2]
end Go.Proofs.Ythphonkiolmkiaa
/- Memory in parts: a list of chunks, each with blocks of its own; what is not listed stays. No program in sight. -/
set_option linter.unusedVariables false
set_option linter.unusedSimpArgs false
namespace Go.Proofs.Ythphonkiolmkiaa
open Go.RowKit
universe u

/-- A part of memory: which blocks it has, and what they hold. -/
structure Chunk where
  holds : World → (Nat → Prop) → Prop
  loc : ∀ {w w' : World} {S : Nat → Prop}, holds w S → (∀ b, S b → w'.heap[b]? = w.heap[b]?) → holds w' S
  lt : ∀ {w : World} {S : Nat → Prop} {b : Nat}, holds w S → S b → b < w.heap.size

def seps : List Chunk → World → (Nat → Prop) → Prop
  | [], _, _ => True
  | A :: cs, w, S => ∃ S1 S2 : Nat → Prop, (∀ b, S1 b → S b) ∧ (∀ b, S2 b → S b) ∧ (∀ b, S1 b → S2 b → False) ∧ A.holds w S1 ∧ seps cs w S2

theorem seps_loc : ∀ {cs : List Chunk} {w w' : World} {S : Nat → Prop}, seps cs w S → (∀ b, S b → w'.heap[b]? = w.heap[b]?) → seps cs w' S
  | [], _, _, _, _, _ => trivial
  | A :: cs, w, w', S, ⟨S1, S2, h1, h2, h3, h4, h5⟩, hk => ⟨S1, S2, h1, h2, h3, A.loc h4 (fun b hb => hk b (h1 b hb)), seps_loc h5 (fun b hb => hk b (h2 b hb))⟩
theorem seps_mono : ∀ {cs : List Chunk} {w : World} {S S' : Nat → Prop}, seps cs w S → (∀ b, S b → S' b) → seps cs w S'
  | [], _, _, _, _, _ => trivial
  | _ :: _, _, _, _, ⟨S1, S2, h1, h2, h3, h4, h5⟩, hk => ⟨S1, S2, fun b hb => hk b (h1 b hb), fun b hb => hk b (h2 b hb), h3, h4, h5⟩
/-- Only blocks that are there are had. -/
theorem seps_lt : ∀ {cs : List Chunk} {w : World} {S : Nat → Prop}, seps cs w S → seps cs w (fun b => S b ∧ b < w.heap.size)
  | [], _, _, _ => trivial
  | A :: cs, w, S, ⟨S1, S2, h1, h2, h3, h4, h5⟩ => ⟨S1, fun b => S2 b ∧ b < w.heap.size, fun b hb => ⟨h1 b hb, A.lt h4 hb⟩, fun b hb => ⟨h2 b hb.1, hb.2⟩, fun b x y => h3 b x y.1, h4, seps_lt h5⟩

/-- The memory of a call: the parts, and what stays of the world. -/
structure Mem (w0 : World) (cs : List Chunk) (w : World) : Prop where
  os : w.os = w0.os
  tape : w.tape = w0.tape
  output : w.output = w0.output
  parts : seps cs w (fun _ => True)

section
variable {w0 w w' : World} {cs ds : List Chunk} {A B : Chunk} {S : Nat → Prop}
/-- The first part becomes another one. -/
theorem seps_swap : seps (A :: B :: cs) w S → seps (B :: A :: cs) w S := fun ⟨S1, S2, h1, h2, h3, h4, S3, S4, k1, k2, k3, k4, k5⟩ =>
  ⟨S3, fun b => S1 b ∨ S4 b, fun b hb => h2 b (k1 b hb), fun b hb => hb.elim (h1 b) (fun h => h2 b (k2 b h)), fun b x y => y.elim (fun y => h3 b y (k1 b x)) (k3 b x), k4,
    S1, S4, fun b h => .inl h, fun b h => .inr h, fun b x y => h3 b x (k2 b y), h4, k5⟩
theorem seps_cons (k : ∀ {w : World} {S : Nat → Prop}, seps cs w S → seps ds w S) (h : seps (A :: cs) w S) : seps (A :: ds) w S := by
  obtain ⟨S1, S2, h1, h2, h3, h4, h5⟩ := h
  exact ⟨S1, S2, h1, h2, h3, h4, k h5⟩
theorem Mem.map (h : Mem w0 cs w) (k : ∀ {w : World} {S : Nat → Prop}, seps cs w S → seps ds w S) : Mem w0 ds w := ⟨h.os, h.tape, h.output, k h.parts⟩
theorem seps_perm {l m : List Chunk} (h : l.Perm m) : ∀ {w : World} {S : Nat → Prop}, seps l w S → seps m w S := by
  induction h with
  | nil => exact fun h => h
  | cons x _ ih => exact fun h => seps_cons ih h
  | swap x y l => exact fun h => seps_swap h
  | trans _ _ ih1 ih2 => exact fun h => ih2 (ih1 h)
theorem Mem.perm (h : Mem w0 cs w) (k : cs.Perm ds) : Mem w0 ds w := h.map (seps_perm k)
/-- Parts are let go. -/
theorem seps_drop : seps (A :: cs) w S → seps cs w S := fun ⟨_, _, _, h2, _, _, h5⟩ => seps_mono h5 h2
theorem Mem.drop (h : Mem w0 (A :: cs) w) : Mem w0 cs w := h.map seps_drop
theorem seps_sub {l m : List Chunk} (h : l.Sublist m) : ∀ {w : World} {S : Nat → Prop}, seps m w S → seps l w S := by
  induction h with
  | slnil => exact fun h => h
  | cons x _ ih => exact fun h => ih (seps_drop h)
  | cons_cons x _ ih => exact fun h => seps_cons ih h
theorem Mem.sub (h : Mem w0 cs w) (k : ds.Sublist cs) : Mem w0 ds w := h.map (seps_sub k)
/-- The k-th part is brought to the front. -/
def bring (k : Nat) (cs : List Chunk) : List Chunk := match cs[k]? with | some c => c :: cs.eraseIdx k | none => cs
theorem bring_perm : ∀ (k : Nat) (cs : List Chunk), cs.Perm (bring k cs)
  | k, [] => by simp [bring]
  | 0, c :: cs => by simp [bring]
  | k + 1, c :: cs => by
    have ih := bring_perm k cs
    unfold bring at ih ⊢
    simp only [List.getElem?_cons_succ, List.eraseIdx_cons_succ]
    split
    · rename_i d hd
      rw [hd] at ih
      exact (List.Perm.cons c ih).trans (List.Perm.swap d c _)
    · exact List.Perm.refl _
theorem Mem.bring (h : Mem w0 cs w) (k : Nat) : Mem w0 (bring k cs) w := h.perm (bring_perm k cs)
/-- Nothing of what was there has changed. -/
theorem Mem.bl (h : Mem w0 cs w) (k : Bl w w') : Mem w0 cs w' :=
  ⟨k.os.trans h.os, k.tape.trans h.tape, k.output.trans h.output, seps_mono (seps_loc (seps_lt h.parts) (fun b hb => k.block b hb.2)) (fun _ _ => trivial)⟩
theorem Mem.drew (h : Mem w0 cs w) : Mem w0 cs w.drew := h.bl (Bl.refl w).drew
theorem Mem.drewN (h : Mem w0 cs w) (n : Nat) : Mem w0 cs (w.drewN n) := h.bl ((Bl.refl w).drewN n)

/-- One block, known whole. -/
def blkO (g : Nat) (o : Obj) : Chunk where
  holds w S := (∀ b, S b ↔ b = g) ∧ w.heap[g]? = some o
  loc h k := ⟨h.1, (k g ((h.1 g).2 rfl)).trans h.2⟩
  lt h hb := by rw [(h.1 _).1 hb]; exact heap_lt h.2
abbrev blk (g : Nat) (T : TypeId) (cs : Array Value) : Chunk := blkO g (.cells cs T (0, 0))
/-- What was there at the beginning. -/
def old (v : World) : Chunk where
  holds w S := (∀ b, S b ↔ b < v.heap.size) ∧ v.heap.size ≤ w.heap.size ∧ ∀ b, b < v.heap.size → w.heap[b]? = v.heap[b]?
  loc {w w' S} h k := by
    refine ⟨h.1, ?_, fun b hb => (k b ((h.1 b).2 hb)).trans (h.2.2 b hb)⟩
    rcases Nat.eq_zero_or_pos v.heap.size with h0 | h0
    · omega
    · have h1 := k (v.heap.size - 1) ((h.1 _).2 (by omega))
      have h2 := h.2.2 (v.heap.size - 1) (by omega)
      rw [h2] at h1
      have h3 : v.heap.size - 1 < w'.heap.size := by
        rcases Nat.lt_or_ge (v.heap.size - 1) w'.heap.size with h | h
        · exact h
        · rw [Array.getElem?_eq_none h, Array.getElem?_eq_getElem (show v.heap.size - 1 < v.heap.size by omega)] at h1; cases h1
      omega
  lt h hb := by have := (h.1 _).1 hb; have := h.2.1; omega
theorem Mem.start (w : World) : Mem w [old w] w := ⟨rfl, rfl, rfl, fun b => b < w.heap.size, fun _ => False, fun _ _ => trivial, fun _ _ => trivial, fun _ _ h => h, ⟨fun _ => Iff.rfl, Nat.le_refl _, fun _ _ => rfl⟩, trivial⟩
theorem Mem.toBl (h : Mem w0 (old w0 :: cs) w) : Bl w0 w := by
  obtain ⟨_, _, _, _, _, h4, _⟩ := h.parts
  exact ⟨h.os, h.tape, h.output, h4.2.1, fun k hk => h4.2.2 k hk⟩
theorem Mem.toBlAt {v : World} (h : Mem w0 cs w) (k : Nat) (hk : cs[k]? = some (old v)) (ho : v.os = w0.os) (ht : v.tape = w0.tape) (hp : v.output = w0.output) : Bl v w := by
  have h2 := h.bring k
  unfold Go.Proofs.Ythphonkiolmkiaa.bring at h2
  rw [hk] at h2
  obtain ⟨_, _, _, _, _, h4, _⟩ := h2.parts
  exact ⟨h.os.trans ho.symm, h.tape.trans ht.symm, h.output.trans hp.symm, h4.2.1, fun k hk => h4.2.2 k hk⟩

/-- A part is taken at its place. -/
theorem seps_at : ∀ {cs : List Chunk} {k : Nat} {A : Chunk} {w : World} {S : Nat → Prop}, seps cs w S → cs[k]? = some A → ∃ S1, A.holds w S1
  | _ :: _, 0, A, w, S, ⟨S1, _, _, _, _, h4, _⟩, hk => by simp at hk; subst hk; exact ⟨S1, h4⟩
  | _ :: cs, k + 1, A, w, S, ⟨_, _, _, _, _, _, h5⟩, hk => seps_at h5 (by simpa using hk)
theorem Mem.at (h : Mem w0 cs w) (k : Nat) {A : Chunk} (hk : cs[k]? = some A) : ∃ S, A.holds w S := seps_at h.parts hk
theorem Mem.blkO (h : Mem w0 cs w) (k : Nat) {g : Nat} {o : Obj} (hk : cs[k]? = some (blkO g o)) : w.heap[g]? = some o := by
  obtain ⟨S, _, h2⟩ := h.at k hk
  exact h2
theorem Mem.ob (h : Mem w0 cs w) (k : Nat) {g : Nat} {T : TypeId} {xs : Array Value} (hk : cs[k]? = some (blk g T xs)) : Ob w g T xs := h.blkO k hk
/-- A part changes: only its own blocks, and new ones, are written. -/
theorem seps_set : ∀ {cs : List Chunk} {k : Nat} {A : Chunk} {w : World} {S : Nat → Prop}, seps cs w S → cs[k]? = some A → (∀ b, S b → b < w.heap.size) →
    ∃ S1, A.holds w S1 ∧ (∀ b, S1 b → S b) ∧ ∀ (B : Chunk) (w' : World) (S' : Nat → Prop), B.holds w' S' → (∀ b, S' b → S1 b ∨ w.heap.size ≤ b) → (∀ b, b < w.heap.size → ¬ S1 b → w'.heap[b]? = w.heap[b]?) → seps (cs.set k B) w' (fun b => S b ∨ w.heap.size ≤ b)
  | A :: cs, 0, A', w, S, ⟨S1, S2, h1, h2, h3, h4, h5⟩, hk, hS => by
    simp at hk
    subst hk
    refine ⟨S1, h4, h1, fun B w' S' hB hS' hw => ⟨S', S2, fun b hb => (hS' b hb).imp (h1 b) id, fun b hb => .inl (h2 b hb), fun b x y => ?_, hB, seps_loc h5 (fun b hb => hw b (hS b (h2 b hb)) (fun h => h3 b h hb))⟩⟩
    rcases hS' b x with h | h
    · exact h3 b h y
    · have := hS b (h2 b y); omega
  | A :: cs, k + 1, A', w, S, ⟨S1, S2, h1, h2, h3, h4, h5⟩, hk, hS => by
    obtain ⟨S3, g1, g2, g3⟩ := seps_set h5 (by simpa using hk : cs[k]? = some A') (fun b hb => hS b (h2 b hb))
    refine ⟨S3, g1, fun b hb => h2 b (g2 b hb), fun B w' S' hB hS' hw => ⟨S1, fun b => S2 b ∨ w.heap.size ≤ b, fun b hb => .inl (h1 b hb), fun b hb => hb.imp (h2 b) id, fun b x y => ?_, ?_, g3 B w' S' hB hS' hw⟩⟩
    · rcases y with y | y
      · exact h3 b x y
      · have := hS b (h1 b x); omega
    · exact A.loc h4 (fun b hb => hw b (hS b (h1 b hb)) (fun h => h3 b hb (g2 b h)))
theorem Mem.set (h : Mem w0 cs w) (k : Nat) {A : Chunk} (hk : cs[k]? = some A) :
    ∃ S1, A.holds w S1 ∧ ∀ (B : Chunk) (w' : World) (S' : Nat → Prop), B.holds w' S' → (∀ b, S' b → S1 b ∨ w.heap.size ≤ b) → (∀ b, b < w.heap.size → ¬ S1 b → w'.heap[b]? = w.heap[b]?) → w'.os = w.os → w'.tape = w.tape → w'.output = w.output → Mem w0 (cs.set k B) w' := by
  obtain ⟨S1, h1, _, h2⟩ := seps_set (seps_lt h.parts) hk (fun b hb => hb.2)
  exact ⟨S1, h1, fun B w' S' hB hS hw e1 e2 e3 => ⟨e1.trans h.os, e2.trans h.tape, e3.trans h.output, seps_mono (h2 B w' S' hB hS hw) (fun _ _ => trivial)⟩⟩
/-- A part more: of new blocks. -/
theorem Mem.new (h : Mem w0 cs w) (k : Bl w w') {B : Chunk} {S : Nat → Prop} (hB : B.holds w' S) (hS : ∀ b, S b → w.heap.size ≤ b) : Mem w0 (B :: cs) w' := by
  refine ⟨k.os.trans h.os, k.tape.trans h.tape, k.output.trans h.output, S, fun b => b < w.heap.size, fun _ _ => trivial, fun _ _ => trivial, fun b x y => ?_, hB, ?_⟩
  · have := hS b x; omega
  · exact seps_mono (seps_loc (seps_lt h.parts) (fun b hb => k.block b hb.2)) (fun b hb => hb.2)
theorem Mem.alloc (h : Mem w0 cs w) (o : Obj) : Mem w0 (Go.Proofs.Ythphonkiolmkiaa.blkO w.heap.size o :: cs) (w.alloc o) :=
  h.new ((Bl.refl w).alloc o) (S := fun b => b = w.heap.size) ⟨fun _ => Iff.rfl, heap_alloc_new w o⟩ (fun b hb => by omega)
/-- A block becomes another one. -/
theorem Mem.upd (h : Mem w0 cs w) (k : Nat) {g : Nat} {o : Obj} (hk : cs[k]? = some (Go.Proofs.Ythphonkiolmkiaa.blkO g o)) (o' : Obj) (hg : w'.heap[g]? = some o') (hc : Ch [g] w w') : Mem w0 (cs.set k (Go.Proofs.Ythphonkiolmkiaa.blkO g o')) w' := by
  obtain ⟨S1, ⟨h1, _⟩, h3⟩ := h.set k hk
  exact h3 _ w' (fun b => b = g) ⟨fun _ => Iff.rfl, hg⟩ (fun b hb => .inl ((h1 b).2 hb)) (fun b hb hn => hc.block b hb (fun hm => hn ((h1 b).2 (by simpa using hm)))) hc.os hc.tape hc.output
theorem Mem.put (h : Mem w0 cs w) (k : Nat) {g : Nat} {T : TypeId} {xs : Array Value} (hk : cs[k]? = some (blk g T xs)) (i : Nat) (v : Value) : Mem w0 (cs.set k (blk g T (xs.setIfInBounds i v))) (w.setCell ⟨g, i, none⟩ v) :=
  h.upd k hk _ ((h.ob k hk).set i v) (Ch.put w g i v)
theorem Mem.row (h : Mem w0 cs w) (k : Nat) {g : Nat} {T : TypeId} {xs : Array Value} (hk : cs[k]? = some (blk g T xs)) (ys : Array Value) : Mem w0 (cs.set k (blk g T ys)) (w.setRow g ys) :=
  h.upd k hk _ (h.ob k hk).row (Ch.setRow w g ys)
/-- Two blocks are two. -/
theorem seps_ne {g g' : Nat} {o o' : Obj} (h : seps (Go.Proofs.Ythphonkiolmkiaa.blkO g o :: Go.Proofs.Ythphonkiolmkiaa.blkO g' o' :: cs) w S) : g ≠ g' := by
  obtain ⟨S1, S2, _, _, h3, ⟨h4, _⟩, S3, S4, h6, _, _, ⟨h7, _⟩, _⟩ := h
  intro e
  exact h3 g ((h4 g).2 rfl) (h6 g ((h7 g).2 e))

/-- A slice of the call's own. -/
def row (T : TypeId) (size : Nat) (v : Value) (n : Nat) (xs : List Value) : Chunk where
  holds w S := (∀ b, S b ↔ v.ownBlock = some b) ∧ App w 0 T size v n xs
  loc {w w' S} h k := by
    refine ⟨h.1, h.2.len, ?_⟩
    rcases h.2.is with hn | ⟨g, o, cap, cur, rfl, hb, hgg, rest⟩
    · exact .inl hn
    · exact .inr ⟨g, o, cap, cur, rfl, hb, (k g ((h.1 g).2 rfl)).trans hgg, rest⟩
  lt h hb := (h.2.lt _ ((h.1 _).1 hb)).2
theorem Mem.app (h : Mem w0 cs w) (k : Nat) {T : TypeId} {size n : Nat} {v : Value} {xs : List Value} (hk : cs[k]? = some (Go.Proofs.Ythphonkiolmkiaa.row T size v n xs)) : App w 0 T size v n xs := by
  obtain ⟨S, _, h2⟩ := h.at k hk
  exact h2
theorem Mem.newRow (h : Mem w0 cs w) (k : Bl w w') {T : TypeId} {size n : Nat} {v : Value} {xs : List Value} (ha : App w' w.heap.size T size v n xs) : Mem w0 (Go.Proofs.Ythphonkiolmkiaa.row T size v n xs :: cs) w' :=
  h.new k (S := fun b => v.ownBlock = some b) ⟨fun _ => Iff.rfl, ha.mono (Nat.zero_le _)⟩ (fun b hb => ha.ge b hb)
theorem Mem.nilRow (h : Mem w0 cs w) (T : TypeId) (size : Nat) : Mem w0 (Go.Proofs.Ythphonkiolmkiaa.row T size (.slice none 0 0) 0 [] :: cs) w :=
  h.new (Bl.refl w) (S := fun _ => False) ⟨fun _ => by simp [Value.ownBlock], App.nil _ _ _ _⟩ (fun b hb => hb.elim)
/-- What append(v, ..) makes of a row. -/
theorem Mem.grow (h : Mem w0 cs w) (k : Nat) {T : TypeId} {size n m : Nat} {v v' : Value} {xs ys : List Value} (hk : cs[k]? = some (Go.Proofs.Ythphonkiolmkiaa.row T size v n xs)) (ha : App w' 0 T size v' m ys) (hg : w.grownBy w' v.ownBlock) (hat : v'.ownBlock = v.ownBlock ∨ v'.ownBlock = some w.heap.size) :
    Mem w0 (cs.set k (Go.Proofs.Ythphonkiolmkiaa.row T size v' m ys)) w' := by
  obtain ⟨S1, ⟨h1, _⟩, h3⟩ := h.set k hk
  refine h3 _ w' (fun b => v'.ownBlock = some b) ⟨fun _ => Iff.rfl, ha⟩ (fun b hb => ?_) (fun b hb hn => ?_) hg.os hg.tape hg.output
  · rcases hat with e | e
    · left; rw [h1, ← e]; exact hb
    · right; rw [e] at hb; cases hb; exact Nat.le_refl _
  · refine hg.block b hb (fun e => hn ((h1 b).2 e.symm))
/-- What copy and stores make of it. -/
theorem Mem.wrote (h : Mem w0 cs w) (k : Nat) {T : TypeId} {size n m : Nat} {v : Value} {xs ys : List Value} (hk : cs[k]? = some (Go.Proofs.Ythphonkiolmkiaa.row T size v n xs)) (ha : App w' 0 T size v m ys) (hg : w.grownBy w' v.ownBlock) : Mem w0 (cs.set k (Go.Proofs.Ythphonkiolmkiaa.row T size v m ys)) w' :=
  h.grow k hk ha hg (.inl rfl)
/-- One part is made of several, or several of one. -/
theorem Mem.turn (h : Mem w0 cs w) {n : Nat} {A : List Chunk} (k : ∀ {w : World} {S : Nat → Prop}, seps (cs.take n) w S → seps A w S) : Mem w0 (A ++ cs.drop n) w := by
  refine h.map (fun {w S} h => ?_)
  have key : ∀ (n : Nat) (cs : List Chunk) (S : Nat → Prop), seps cs w S → ∃ S1 S2 : Nat → Prop, (∀ b, S1 b → S b) ∧ (∀ b, S2 b → S b) ∧ (∀ b, S1 b → S2 b → False) ∧ seps (cs.take n) w S1 ∧ seps (cs.drop n) w S2 := by
    intro n
    induction n with
    | zero => exact fun cs S h => ⟨fun _ => False, S, fun _ h => h.elim, fun _ h => h, fun _ h _ => h, trivial, h⟩
    | succ n ih =>
      intro cs S h
      cases cs with
      | nil => exact ⟨fun _ => False, S, fun _ h => h.elim, fun _ h => h, fun _ h _ => h, trivial, trivial⟩
      | cons a cs =>
        obtain ⟨S1, S2, h1, h2, h3, h4, h5⟩ := h
        obtain ⟨S3, S4, g1, g2, g3, g4, g5⟩ := ih cs S2 h5
        refine ⟨fun b => S1 b ∨ S3 b, S4, fun b hb => hb.elim (h1 b) (fun h => h2 b (g1 b h)), fun b hb => h2 b (g2 b hb), fun b x y => x.elim (fun x => h3 b x (g2 b y)) (fun x => g3 b x y), ?_, g5⟩
        exact ⟨S1, S3, fun b h => .inl h, fun b h => .inr h, fun b x y => h3 b x (g1 b y), h4, g4⟩
  obtain ⟨S1, S2, h1, h2, h3, h4, h5⟩ := key n cs S h
  have join : ∀ (A B : List Chunk) (S1 S2 S : Nat → Prop), seps A w S1 → seps B w S2 → (∀ b, S1 b → S b) → (∀ b, S2 b → S b) → (∀ b, S1 b → S2 b → False) → seps (A ++ B) w S := by
    intro A
    induction A with
    | nil => exact fun B S1 S2 S _ hb _ k2 _ => seps_mono hb k2
    | cons a A ih =>
      intro B S1 S2 S ⟨T1, T2, t1, t2, t3, t4, t5⟩ hb k1 k2 k3
      exact ⟨T1, fun b => T2 b ∨ S2 b, fun b h => k1 b (t1 b h), fun b h => h.elim (fun h => k1 b (t2 b h)) (k2 b), fun b x y => y.elim (t3 b x) (fun y => k3 b (t1 b x) y), t4, ih B T2 S2 _ t5 hb (fun _ h => .inl h) (fun _ h => .inr h) (fun b x y => k3 b (t2 b x) y)⟩
  exact join A _ S1 S2 S (k h4) h5 h1 h2 h3
/-- Several parts as one. -/
def tog (l : List Chunk) : Chunk where
  holds w S := seps l w S ∧ ∀ b, S b → b < w.heap.size
  loc {w w' S} h k := ⟨seps_loc h.1 k, fun b hb => by
    have h1 := h.2 b hb
    have h2 := k b hb
    rw [Array.getElem?_eq_getElem h1] at h2
    exact (Array.getElem?_eq_some_iff.1 h2).1⟩
  lt h hb := h.2 _ hb
theorem seps_tog {l cs : List Chunk} {w : World} {S : Nat → Prop} (h : seps (tog l :: cs) w S) : seps (l ++ cs) w S := by
  obtain ⟨S1, S2, h1, h2, h3, ⟨h4, h6⟩, h5⟩ := h
  clear h6
  induction l generalizing S S1 with
  | nil => exact seps_mono h5 h2
  | cons a l ih =>
    obtain ⟨T1, T2, t1, t2, t3, t4, t5⟩ := h4
    exact ⟨T1, fun b => T2 b ∨ S2 b, fun b h => h1 b (t1 b h), fun b h => h.elim (fun h => h1 b (t2 b h)) (h2 b), fun b x y => y.elim (t3 b x) (fun y => h3 b (t1 b x) y), t4,
      ih T2 (fun _ h => .inl h) (fun _ h => .inr h) (fun b x y => h3 b (t2 b x) y) t5⟩
theorem seps_untog {l cs : List Chunk} {w : World} {S : Nat → Prop} (h : seps (l ++ cs) w S) : seps (tog l :: cs) w S := by
  have key : ∀ (l : List Chunk) (S : Nat → Prop), seps (l ++ cs) w S → ∃ S1 S2 : Nat → Prop, (∀ b, S1 b → S b) ∧ (∀ b, S2 b → S b) ∧ (∀ b, S1 b → S2 b → False) ∧ seps l w S1 ∧ (∀ b, S1 b → b < w.heap.size) ∧ seps cs w S2 := by
    intro l
    induction l with
    | nil => exact fun S h => ⟨fun _ => False, S, fun _ h => h.elim, fun _ h => h, fun _ h _ => h, trivial, fun _ h => h.elim, h⟩
    | cons a l ih =>
      intro S ⟨T1, T2, t1, t2, t3, t4, t5⟩
      obtain ⟨S1, S2, g1, g2, g3, g4, g5, g6⟩ := ih T2 t5
      exact ⟨fun b => T1 b ∨ S1 b, S2, fun b h => h.elim (t1 b) (fun h => t2 b (g1 b h)), fun b h => t2 b (g2 b h), fun b x y => x.elim (fun x => t3 b x (g2 b y)) (fun x => g3 b x y), ⟨T1, S1, fun _ h => .inl h, fun _ h => .inr h, fun b x y => t3 b x (g1 b y), t4, g4⟩, fun b h => h.elim (a.lt t4) (g5 b), g6⟩
  obtain ⟨S1, S2, h1, h2, h3, h4, h5, h6⟩ := key l S h
  exact ⟨S1, S2, h1, h2, h3, ⟨h4, h5⟩, h6⟩
theorem Mem.open_ {l : List Chunk} (h : Mem w0 (tog l :: cs) w) : Mem w0 (l ++ cs) w := h.map seps_tog
theorem Mem.close {l : List Chunk} (h : Mem w0 (l ++ cs) w) : Mem w0 (tog l :: cs) w := h.map seps_untog
/-- A part of which something is not told. -/
def exs {α : Sort u} (f : α → Chunk) : Chunk where
  holds w S := ∃ x, (f x).holds w S
  loc h k := h.imp fun x hx => (f x).loc hx k
  lt h hb := h.elim fun x hx => (f x).lt hx hb
theorem Mem.ex {α : Sort u} {f : α → Chunk} (h : Mem w0 (exs f :: cs) w) : ∃ x, Mem w0 (f x :: cs) w := by
  obtain ⟨e1, e2, e3, S1, S2, h1, h2, h3, ⟨x, h4⟩, h5⟩ := h
  exact ⟨x, e1, e2, e3, S1, S2, h1, h2, h3, h4, h5⟩
theorem Mem.unex {α : Sort u} {f : α → Chunk} (x : α) (h : Mem w0 (f x :: cs) w) : Mem w0 (exs f :: cs) w := by
  obtain ⟨e1, e2, e3, S1, S2, h1, h2, h3, h4, h5⟩ := h
  exact ⟨e1, e2, e3, S1, S2, h1, h2, h3, ⟨x, h4⟩, h5⟩
/-- A part, and a fact. -/
def pur (p : Prop) : Chunk where
  holds _ S := (∀ b, ¬ S b) ∧ p
  loc h _ := h
  lt h hb := (h.1 _ hb).elim
theorem Mem.pur {p : Prop} (h : Mem w0 (Go.Proofs.Ythphonkiolmkiaa.pur p :: cs) w) : p ∧ Mem w0 cs w := ⟨by obtain ⟨_, _, _, S1, S2, h1, h2, h3, h4, h5⟩ := h; exact h4.2, h.drop⟩
theorem Mem.unpur {p : Prop} (hp : p) (h : Mem w0 cs w) : Mem w0 (Go.Proofs.Ythphonkiolmkiaa.pur p :: cs) w := h.new (Bl.refl w) (S := fun _ => False) ⟨fun _ h => h, hp⟩ (fun _ h => h.elim)
end
end Go.Proofs.Ythphonkiolmkiaa
