/- The reference of layer 18 (node): Get's state. -/
import Derived.Test.YtedmamchfgkkfaaNodeI
import Derived.Test.YtedmamchfgkkfaaRefLebB
set_option linter.unusedVariables false
set_option linter.unusedSimpArgs false
namespace Go.Proofs.Ytedmamchfgkkfaa
open Go.RowKit
set_option maxRecDepth 100000
set_option maxHeartbeats 4000000

/-- The state of the reference's Get: the result's variable, the node's variable. -/
structure RefSt (w0 : World) (k : Int) (gR gN base : Nat) (w : World) (ks vs : List ByteArray) (is : List Int) (K V I : Value) : Prop where
  oR : Ob w gR 52 #[.int .u8 0, .slice none 0 0, .slice none 0 0, .slice none 0 0]
  oN : Ob w gN 52 #[.int .u8 k, K, V, I]
  aK : App w base 9 1 K ks.length (ks.map sv)
  aV : App w base 9 1 V vs.length (vs.map sv)
  aI : App w base 3 1 I is.length (is.map iv)
  ord : gR < gN ∧ gN < base ∧ base ≤ w.heap.size
  wb : Bl w0 w
  w0b : w0.heap.size ≤ gR
  ap : K.ownBlock = none ∨ K.ownBlock ≠ V.ownBlock
theorem ref_setup (k : Int) (w : World) : RefSt w k w.heap.size (w.heap.size + 1) (w.heap.size + 1 + 1)
      ((w.alloc (.cells #[.int .u8 0, .slice none 0 0, .slice none 0 0, .slice none 0 0] 52)).alloc (.cells #[.int .u8 k, .slice none 0 0, .slice none 0 0, .slice none 0 0] 52))
      [] [] [] (.slice none 0 0) (.slice none 0 0) (.slice none 0 0) := by
  have o1 := Ob.new w #[.int .u8 0, .slice none 0 0, .slice none 0 0, .slice none 0 0] 52
  have o2 := Ob.new (w.alloc (.cells #[.int .u8 0, .slice none 0 0, .slice none 0 0, .slice none 0 0] 52)) #[.int .u8 k, .slice none 0 0, .slice none 0 0, .slice none 0 0] 52
  exact ⟨o1.bl ((Bl.refl _).alloc _), by simpa using o2, App.nil _ _ _ _, App.nil _ _ _ _, App.nil _ _ _ _, ⟨by omega, by omega, by simp⟩, ((Bl.refl w).alloc _).alloc _, Nat.le_refl _, .inl rfl⟩
theorem RefSt.bl {w0 : World} {k : Int} {gR gN base : Nat} {w w' : World} {ks vs : List ByteArray} {is : List Int} {K V I : Value} (h : RefSt w0 k gR gN base w ks vs is K V I) (hb : Bl w w') : RefSt w0 k gR gN base w' ks vs is K V I :=
  ⟨h.oR.bl hb, h.oN.bl hb, h.aK.bl hb, h.aV.bl hb, h.aI.bl hb, ⟨h.ord.1, h.ord.2.1, Nat.le_trans h.ord.2.2 hb.size⟩, h.wb.trans hb, h.w0b, h.ap⟩
/-- What an append to one of the three leaves, and the store of it. -/
theorem RefSt.grow {w0 : World} {k : Int} {gR gN base : Nat} {w w' : World} {ks vs : List ByteArray} {is : List Int} {K V I X : Value} (h : RefSt w0 k gR gN base w ks vs is K V I) (hg : w.grownBy w' X.ownBlock) (hX : ∀ g, X.ownBlock = some g → base ≤ g) (i : Nat) (u : Value) :
    Ob (w'.setCell ⟨gN, i, none⟩ u) gR 52 #[.int .u8 0, .slice none 0 0, .slice none 0 0, .slice none 0 0] ∧ Ob w' gN 52 #[.int .u8 k, K, V, I] ∧ (gR < gN ∧ gN < base ∧ base ≤ (w'.setCell ⟨gN, i, none⟩ u).heap.size) ∧ Bl w0 (w'.setCell ⟨gN, i, none⟩ u) ∧
    (∀ {T : TypeId} {v : Value} {m : Nat} {cs : List Value}, App w base T 1 v m cs → (v.ownBlock = none ∨ v.ownBlock ≠ X.ownBlock) → App (w'.setCell ⟨gN, i, none⟩ u) base T 1 v m cs) := by
  obtain ⟨h4, h5, h6⟩ := h.ord
  have hch := Ch.grown hg
  have nin : ∀ g, g < base → g ∉ X.ownBlock.toList := fun g hlt hm => by
    simp at hm
    have := hX g hm
    omega
  have hp := Ch.put w' gN i u
  refine ⟨(h.oR.ch hch (nin _ (by omega))).ch hp (by simp; omega), h.oN.ch hch (nin _ (by omega)), ⟨h4, h5, Nat.le_trans h6 (Nat.le_trans hch.size hp.size)⟩, (h.wb.grown hg (fun q hq => by have := hX q hq; have := h.w0b; omega)).setCell (by have := h.w0b; show w0.heap.size ≤ gN; omega) u, ?_⟩
  intro T v m cs ha hne
  exact (ha.kept hg hne).ch hp (fun g hm e => by have := ha.ge g e; simp at hm; omega)
theorem RefSt.keys {w0 : World} {k : Int} {gR gN base : Nat} {w w' : World} {ks vs : List ByteArray} {is : List Int} {K V I K' : Value} {x : ByteArray} (h : RefSt w0 k gR gN base w ks vs is K V I)
    (ha : App w' base 9 1 K' (ks.length + 1) (ks.map sv ++ [sv x])) (hg : w.grownBy w' K.ownBlock) (hat : K'.ownBlock = K.ownBlock ∨ ∃ b, K'.ownBlock = some b ∧ w.heap.size ≤ b) : RefSt w0 k gR gN base (w'.setCell ⟨gN, 1, none⟩ K') (ks ++ [x]) vs is K' V I := by
  obtain ⟨r2, r3, r4, rb, r5⟩ := h.grow hg h.aK.ge 1 K'
  refine ⟨r2, by have := r3.set 1 K'; simpa using this, ?_, r5 h.aV (ne_swap h.ap), r5 h.aI (ne_swap (app_ne h.aK h.aI (by decide))), r4, rb, h.w0b, ?_⟩
  · have := ha.ch (Ch.put w' gN 1 K') (fun g hm e => by have := ha.ge g e; have := r4; simp at hm; omega)
    simpa using this
  · rcases hat with e1 | ⟨bb, e1, hbb⟩
    · rw [e1]; exact h.ap
    · right; rw [e1]; intro e2; have := (h.aV.lt _ e2.symm).2; omega
theorem RefSt.vals {w0 : World} {k : Int} {gR gN base : Nat} {w w' : World} {ks vs : List ByteArray} {is : List Int} {K V I V' : Value} {x : ByteArray} (h : RefSt w0 k gR gN base w ks vs is K V I)
    (ha : App w' base 9 1 V' (vs.length + 1) (vs.map sv ++ [sv x])) (hg : w.grownBy w' V.ownBlock) (hat : V'.ownBlock = V.ownBlock ∨ ∃ b, V'.ownBlock = some b ∧ w.heap.size ≤ b) : RefSt w0 k gR gN base (w'.setCell ⟨gN, 2, none⟩ V') ks (vs ++ [x]) is K V' I := by
  obtain ⟨r2, r3, r4, rb, r5⟩ := h.grow hg h.aV.ge 2 V'
  refine ⟨r2, by have := r3.set 2 V'; simpa using this, r5 h.aK h.ap, ?_, r5 h.aI (ne_swap (app_ne h.aV h.aI (by decide))), r4, rb, h.w0b, ?_⟩
  · have := ha.ch (Ch.put w' gN 2 V') (fun g hm e => by have := ha.ge g e; have := r4; simp at hm; omega)
    simpa using this
  · rcases hat with e1 | ⟨bb, e1, hbb⟩
    · rw [e1]; exact h.ap
    · rcases hk : K.ownBlock with _ | g
      · exact .inl rfl
      · right; rw [e1]; intro e2; simp at e2; have := (h.aK.lt g hk).2; omega
theorem RefSt.kids {w0 : World} {k : Int} {gR gN base : Nat} {w w' : World} {ks vs : List ByteArray} {is : List Int} {K V I I' : Value} {x : Int} (h : RefSt w0 k gR gN base w ks vs is K V I)
    (ha : App w' base 3 1 I' (is.length + 1) (is.map iv ++ [iv x])) (hg : w.grownBy w' I.ownBlock) : RefSt w0 k gR gN base (w'.setCell ⟨gN, 3, none⟩ I') ks vs (is ++ [x]) K V I' := by
  obtain ⟨r2, r3, r4, rb, r5⟩ := h.grow hg h.aI.ge 3 I'
  refine ⟨r2, by have := r3.set 3 I'; simpa using this, r5 h.aK (app_ne h.aK h.aI (by decide)), r5 h.aV (app_ne h.aV h.aI (by decide)), ?_, r4, rb, h.w0b, h.ap⟩
  have := ha.ch (Ch.put w' gN 3 I') (fun g hm e => by have := ha.ge g e; have := r4; simp at hm; omega)
  simpa using this
end Go.Proofs.Ytedmamchfgkkfaa
