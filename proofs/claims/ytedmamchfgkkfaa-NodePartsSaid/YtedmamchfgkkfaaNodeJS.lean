/- Layer 18 (node): a node's variable, a result's variable, and slices of the call's own that are appended to. -/
import Derived.Test.YtedmamchfgkkfaaNodeQ
set_option linter.unusedVariables false
set_option linter.unusedSimpArgs false
namespace Go.Proofs.Ytedmamchfgkkfaa
open Go.RowKit
set_option maxRecDepth 100000

structure JSt (w0 : World) (k : Int) (gR gN base : Nat) (w : World) (ks vs : List ByteArray) (is : List Int) (K V I : Value) : Prop where
  oR : Ob w gR 52 #[.int .u8 0, .slice none 0 0, .slice none 0 0, .slice none 0 0]
  oN : Ob w gN 52 #[.int .u8 k, K, V, I]
  aK : App w base 9 1 K ks.length (ks.map sv)
  aV : App w base 9 1 V vs.length (vs.map sv)
  aI : App w base 3 1 I is.length (is.map iv)
  wb : Bl w0 w
  ord : w0.heap.size ≤ gR ∧ w0.heap.size ≤ gN ∧ w0.heap.size ≤ base ∧ base ≤ w.heap.size ∧ gR ≠ gN
  ap : K.ownBlock = none ∨ K.ownBlock ≠ V.ownBlock
theorem JSt.bl {w0 : World} {k : Int} {gR gN base : Nat} {w w' : World} {ks vs : List ByteArray} {is : List Int} {K V I : Value} (h : JSt w0 k gR gN base w ks vs is K V I) (hb : Bl w w') : JSt w0 k gR gN base w' ks vs is K V I :=
  ⟨h.oR.bl hb, h.oN.bl hb, h.aK.bl hb, h.aV.bl hb, h.aI.bl hb, h.wb.trans hb, ⟨h.ord.1, h.ord.2.1, h.ord.2.2.1, Nat.le_trans h.ord.2.2.2.1 hb.size, h.ord.2.2.2.2⟩, h.ap⟩
theorem JSt.grow {w0 : World} {k : Int} {gR gN base : Nat} {w w' : World} {ks vs : List ByteArray} {is : List Int} {K V I X : Value} {T : TypeId} {n : Nat} {cs : List Value} (h : JSt w0 k gR gN base w ks vs is K V I) (hX : App w base T 1 X n cs) (hT : 52 ≠ T) (hg : w.grownBy w' X.ownBlock) (i : Nat) (u : Value) :
    Ob (w'.setCell ⟨gN, i, none⟩ u) gR 52 #[.int .u8 0, .slice none 0 0, .slice none 0 0, .slice none 0 0] ∧ Ob w' gN 52 #[.int .u8 k, K, V, I] ∧ Bl w0 (w'.setCell ⟨gN, i, none⟩ u) ∧
    (w0.heap.size ≤ gR ∧ w0.heap.size ≤ gN ∧ w0.heap.size ≤ base ∧ base ≤ (w'.setCell ⟨gN, i, none⟩ u).heap.size ∧ gR ≠ gN) ∧
    (∀ {T' : TypeId} {v : Value} {m : Nat} {cs : List Value}, App w base T' 1 v m cs → 52 ≠ T' → (v.ownBlock = none ∨ v.ownBlock ≠ X.ownBlock) → App (w'.setCell ⟨gN, i, none⟩ u) base T' 1 v m cs) := by
  obtain ⟨h1, h2, h3, h4, h5⟩ := h.ord
  have hch := Ch.grown hg
  have nin : ∀ {g : Nat} {C : Array Value}, Ob w g 52 C → g ∉ X.ownBlock.toList := fun ho hm => by
    simp at hm
    exact ho.app hX hT hm
  have hp := Ch.put w' gN i u
  have hN := h.oN.ch hch (nin h.oN)
  refine ⟨(h.oR.ch hch (nin h.oR)).ch hp (by simpa using h5), hN, (h.wb.grown hg (fun q hq => Nat.le_trans h3 (hX.ge q hq))).setCell h2 u, ⟨h1, h2, h3, Nat.le_trans h4 (Nat.le_trans hch.size hp.size), h5⟩, ?_⟩
  intro T' v m cs ha hT' hne
  have hk := ha.kept hg hne
  exact hk.ch hp (fun g hm => by simp at hm; subst hm; exact hN.app hk hT')
theorem JSt.keys {w0 : World} {k : Int} {gR gN base : Nat} {w w' : World} {ks vs xs : List ByteArray} {is : List Int} {K V I K' : Value} {n : Nat} (h : JSt w0 k gR gN base w ks vs is K V I) (hn : n = xs.length)
    (ha : App w' base 9 1 K' (ks.length + n) (ks.map sv ++ xs.map sv)) (hg : w.grownBy w' K.ownBlock) (hat : K'.ownBlock = K.ownBlock ∨ ∃ b, K'.ownBlock = some b ∧ w.heap.size ≤ b) : JSt w0 k gR gN base (w'.setCell ⟨gN, 1, none⟩ K') (ks ++ xs) vs is K' V I := by
  subst hn
  obtain ⟨r2, r3, rb, r4, r5⟩ := h.grow h.aK (by decide) hg 1 K'
  refine ⟨r2, by have := r3.set 1 K'; simpa using this, ?_, r5 h.aV (by decide) (ne_swap h.ap), r5 h.aI (by decide) (ne_swap (app_ne h.aK h.aI (by decide))), rb, r4, ?_⟩
  · have := ha.ch (Ch.put w' gN 1 K') (fun g hm => by simp at hm; subst hm; exact r3.app ha (by decide))
    simpa using this
  · rcases hat with e1 | ⟨bb, e1, hbb⟩
    · rw [e1]; exact h.ap
    · right; rw [e1]; intro e2; have := (h.aV.lt _ e2.symm).2; omega
theorem JSt.vals {w0 : World} {k : Int} {gR gN base : Nat} {w w' : World} {ks vs xs : List ByteArray} {is : List Int} {K V I V' : Value} {n : Nat} (h : JSt w0 k gR gN base w ks vs is K V I) (hn : n = xs.length)
    (ha : App w' base 9 1 V' (vs.length + n) (vs.map sv ++ xs.map sv)) (hg : w.grownBy w' V.ownBlock) (hat : V'.ownBlock = V.ownBlock ∨ ∃ b, V'.ownBlock = some b ∧ w.heap.size ≤ b) : JSt w0 k gR gN base (w'.setCell ⟨gN, 2, none⟩ V') ks (vs ++ xs) is K V' I := by
  subst hn
  obtain ⟨r2, r3, rb, r4, r5⟩ := h.grow h.aV (by decide) hg 2 V'
  refine ⟨r2, by have := r3.set 2 V'; simpa using this, r5 h.aK (by decide) h.ap, ?_, r5 h.aI (by decide) (ne_swap (app_ne h.aV h.aI (by decide))), rb, r4, ?_⟩
  · have := ha.ch (Ch.put w' gN 2 V') (fun g hm => by simp at hm; subst hm; exact r3.app ha (by decide))
    simpa using this
  · rcases hat with e1 | ⟨bb, e1, hbb⟩
    · rw [e1]; exact h.ap
    · rcases hk : K.ownBlock with _ | g
      · exact .inl rfl
      · right; rw [e1]; intro e2; simp at e2; have := (h.aK.lt g hk).2; omega
theorem JSt.kids {w0 : World} {k : Int} {gR gN base : Nat} {w w' : World} {ks vs : List ByteArray} {is xs : List Int} {K V I I' : Value} {n : Nat} (h : JSt w0 k gR gN base w ks vs is K V I) (hn : n = xs.length)
    (ha : App w' base 3 1 I' (is.length + n) (is.map iv ++ xs.map iv)) (hg : w.grownBy w' I.ownBlock) : JSt w0 k gR gN base (w'.setCell ⟨gN, 3, none⟩ I') ks vs (is ++ xs) K V I' := by
  subst hn
  obtain ⟨r2, r3, rb, r4, r5⟩ := h.grow h.aI (by decide) hg 3 I'
  refine ⟨r2, by have := r3.set 3 I'; simpa using this, r5 h.aK (by decide) (app_ne h.aK h.aI (by decide)), r5 h.aV (by decide) (app_ne h.aV h.aI (by decide)), ?_, rb, r4, h.ap⟩
  have := ha.ch (Ch.put w' gN 3 I') (fun g hm => by simp at hm; subst hm; exact r3.app ha (by decide))
  simpa using this
end Go.Proofs.Ytedmamchfgkkfaa
