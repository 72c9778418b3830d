/- Layer 18 (node): what is read of bytes, as a plain function; and Get walked. -/
import Derived.Test.YtedmamchfgkkfaaNodeH
set_option linter.unusedVariables false
set_option linter.unusedSimpArgs false
namespace Go.Proofs.Ytedmamchfgkkfaa
open Go.RowKit
set_option maxRecDepth 100000
set_option maxHeartbeats 4000000

structure NodeR where
  k : Int
  keys : List ByteArray
  vals : List ByteArray
  kids : List Int
  e : Int
def nodeNo (e : Int) : NodeR := ⟨0, [], [], [], e⟩
def nodeEnd (k : Int) (b : List UInt8) (p : Int) (ks vs : List ByteArray) (is : List Int) : NodeR :=
  if p ≠ b.length ∨ nodeRight k ks vs is 6 6 = false then nodeNo 5 else ⟨k, ks, vs, is, 0⟩
def nodeLoop (k : Int) (b : List UInt8) : Nat → Int → List ByteArray → List ByteArray → List Int → NodeR
  | 0, p, ks, vs, is => nodeEnd k b p ks vs is
  | n + 1, p, ks, vs, is =>
    if (lebRow b p 40).2.2 ≠ 0 then nodeNo (lebRow b p 40).2.2
    else if k = 2 then
      if (lebCount b (lebRow b p 40).2.1 65535).2.2 ≠ 0 then nodeNo (lebCount b (lebRow b p 40).2.1 65535).2.2
      else nodeLoop k b n (lebCount b (lebRow b p 40).2.1 65535).2.1 (ks ++ [⟨(lebRow b p 40).1.toArray⟩]) vs (is ++ [(lebCount b (lebRow b p 40).2.1 65535).1])
    else
      if (lebRow b (lebRow b p 40).2.1 40).2.2 ≠ 0 then nodeNo (lebRow b (lebRow b p 40).2.1 40).2.2
      else nodeLoop k b n (lebRow b (lebRow b p 40).2.1 40).2.1 (ks ++ [⟨(lebRow b p 40).1.toArray⟩]) (vs ++ [⟨(lebRow b (lebRow b p 40).2.1 40).1.toArray⟩]) is
def nodeGet (k : Int) (b : List UInt8) : NodeR :=
  if k ≠ 1 ∧ k ≠ 2 then nodeNo 2
  else if (lebCount b 0 6).2.2 ≠ 0 then nodeNo (lebCount b 0 6).2.2
  else if k = 2 then
    if (lebCount b (lebCount b 0 6).2.1 65535).2.2 ≠ 0 then nodeNo (lebCount b (lebCount b 0 6).2.1 65535).2.2
    else nodeLoop k b (lebCount b 0 6).1.toNat (lebCount b (lebCount b 0 6).2.1 65535).2.1 [] [] [(lebCount b (lebCount b 0 6).2.1 65535).1]
  else nodeLoop k b (lebCount b 0 6).1.toNat (lebCount b 0 6).2.1 [] [] []
/-- A node of the call's own, and an error, are handed back. -/
def RetNode (r : NodeR) (w : World) (e : Ending) (w' : World) : Prop :=
  ∃ A c B d I ci, e = .returned (.tuple #[nodeV r.k A r.keys.length c B r.vals.length d I r.kids.length ci, .int .i64 r.e]) ∧
    App w' w.heap.size 9 1 (.slice A r.keys.length c) r.keys.length (r.keys.map sv) ∧ App w' w.heap.size 9 1 (.slice B r.vals.length d) r.vals.length (r.vals.map sv) ∧ App w' w.heap.size 3 1 (.slice I r.kids.length ci) r.kids.length (r.kids.map iv) ∧ Bl w w'
theorem RetNode.no {r : NodeR} {w w' : World} {e : Int} (h : r = nodeNo e) (hb : Bl w w') : RetNode r w (.returned (.tuple #[nodeV 0 none 0 0 none 0 0 none 0 0, .int .i64 e])) w' := by
  subst h; exact ⟨none, 0, none, 0, none, 0, rfl, App.nil _ _ _ _, App.nil _ _ _ _, App.nil _ _ _ _, hb⟩
theorem Try.sizeNode : (Try.prog.info? 52).map (·.size) = some 4 := by kernel_rfl

/-- The state of Get's loop: the captured variables, the result's variable, the node's variable. -/
structure GetSt (w0 : World) (k : Int) (gB gR gA gE gN base : Nat) (A : Option Addr) (n c : Nat) (w : World) (p e : Int) (ks vs : List ByteArray) (is : List Int) (K V I : Value) : Prop where
  cap : Cap w gE gB gA A n c p e
  oR : Ob w gR 52 #[.int .u8 0, .slice none 0 0, .slice none 0 0, .slice none 0 0]
  oN : Ob w gN 52 #[.int .u8 k, K, V, I]
  aK : App w base 9 1 K ks.length (ks.map sv)
  aV : App w base 9 1 V vs.length (vs.map sv)
  aI : App w base 3 1 I is.length (is.map iv)
  ord : gB < gR ∧ gR < gA ∧ gA < gE ∧ gE < gN ∧ gN < base ∧ base ≤ w.heap.size
  wb : Bl w0 w
  w0b : w0.heap.size ≤ gB
  ap : K.ownBlock = none ∨ K.ownBlock ≠ V.ownBlock
theorem node_setup (k : Int) (A : Option Addr) (n c : Nat) (w : World) :
    GetSt w k w.heap.size (w.heap.size + 1) (w.heap.size + 1 + 1) (w.heap.size + 1 + 1 + 1) (w.heap.size + 1 + 1 + 1 + 1) (w.heap.size + 1 + 1 + 1 + 1 + 1) A n c
      (((((w.alloc (.cells #[.slice A n c] 24)).alloc (.cells #[.int .u8 0, .slice none 0 0, .slice none 0 0, .slice none 0 0] 52)).alloc (.cells #[.int .i64 0] 3)).alloc (.cells #[.int .i64 0] 28)).alloc (.cells #[.int .u8 k, .slice none 0 0, .slice none 0 0, .slice none 0 0] 52))
      0 0 [] [] [] (.slice none 0 0) (.slice none 0 0) (.slice none 0 0) := by
  have o1 := Ob.new w #[.slice A n c] 24
  generalize h1 : w.alloc (.cells #[.slice A n c] 24) = w1 at o1 ⊢
  have s1 : w1.heap.size = w.heap.size + 1 := by rw [← h1]; simp
  have o2 := Ob.new w1 #[.int .u8 0, .slice none 0 0, .slice none 0 0, .slice none 0 0] 52
  have o1 := o1.bl ((Bl.refl _).alloc (.cells #[.int .u8 0, .slice none 0 0, .slice none 0 0, .slice none 0 0] 52))
  generalize h2 : w1.alloc (.cells #[.int .u8 0, .slice none 0 0, .slice none 0 0, .slice none 0 0] 52) = w2 at o1 o2 ⊢
  have s2 : w2.heap.size = w.heap.size + 1 + 1 := by rw [← h2]; simp [s1]
  have o3 := Ob.new w2 #[.int .i64 0] 3
  have o1 := o1.bl ((Bl.refl _).alloc (.cells #[.int .i64 0] 3))
  have o2 := o2.bl ((Bl.refl _).alloc (.cells #[.int .i64 0] 3))
  generalize h3 : w2.alloc (.cells #[.int .i64 0] 3) = w3 at o1 o2 o3 ⊢
  have s3 : w3.heap.size = w.heap.size + 1 + 1 + 1 := by rw [← h3]; simp [s2]
  have o4 := Ob.new w3 #[.int .i64 0] 28
  have o1 := o1.bl ((Bl.refl _).alloc (.cells #[.int .i64 0] 28))
  have o2 := o2.bl ((Bl.refl _).alloc (.cells #[.int .i64 0] 28))
  have o3 := o3.bl ((Bl.refl _).alloc (.cells #[.int .i64 0] 28))
  generalize h4 : w3.alloc (.cells #[.int .i64 0] 28) = w4 at o1 o2 o3 o4 ⊢
  have s4 : w4.heap.size = w.heap.size + 1 + 1 + 1 + 1 := by rw [← h4]; simp [s3]
  have hb := (Bl.refl w4).alloc (.cells #[.int .u8 k, .slice none 0 0, .slice none 0 0, .slice none 0 0] 52)
  have o5 := Ob.new w4 #[.int .u8 k, .slice none 0 0, .slice none 0 0, .slice none 0 0] 52
  rw [s1] at o2
  rw [s2] at o3
  rw [s3] at o4
  rw [s4] at o5
  refine ⟨⟨o4.bl hb, o1.bl hb, o3.bl hb, by omega, by omega, by omega⟩, o2.bl hb, o5, App.nil _ _ _ _, App.nil _ _ _ _, App.nil _ _ _ _, ⟨by omega, by omega, by omega, by omega, by omega, by simp [s4]⟩, ?_, Nat.le_refl _, .inl rfl⟩
  rw [← h4, ← h3, ← h2, ← h1]
  exact (((((Bl.refl w).alloc _).alloc _).alloc _).alloc _).alloc _
theorem GetSt.bl {w0 : World} {k : Int} {gB gR gA gE gN base : Nat} {A : Option Addr} {n c : Nat} {w w' : World} {p e : Int} {ks vs : List ByteArray} {is : List Int} {K V I : Value} (h : GetSt w0 k gB gR gA gE gN base A n c w p e ks vs is K V I) (hb : Bl w w') : GetSt w0 k gB gR gA gE gN base A n c w' p e ks vs is K V I :=
  ⟨h.cap.bl hb, h.oR.bl hb, h.oN.bl hb, h.aK.bl hb, h.aV.bl hb, h.aI.bl hb, ⟨h.ord.1, h.ord.2.1, h.ord.2.2.1, h.ord.2.2.2.1, h.ord.2.2.2.2.1, Nat.le_trans h.ord.2.2.2.2.2 hb.size⟩, h.wb.trans hb, h.w0b, h.ap⟩
/-- Behind a closure's call. -/
theorem GetSt.call {w0 : World} {k : Int} {gB gR gA gE gN base : Nat} {A : Option Addr} {n c : Nat} {w w' : World} {p e p' e' : Int} {ks vs : List ByteArray} {is : List Int} {K V I : Value} (h : GetSt w0 k gB gR gA gE gN base A n c w p e ks vs is K V I) (hc : Cap w' gE gB gA A n c p' e') (hw : Ch [gE, gA] w w') : GetSt w0 k gB gR gA gE gN base A n c w' p' e' ks vs is K V I := by
  obtain ⟨h1, h2, h3, h4, h5, h6⟩ := h.ord
  have key : ∀ {T : TypeId} {v : Value} {m : Nat} {cs : List Value}, App w base T 1 v m cs → App w' base T 1 v m cs := fun a => a.ch hw (fun g hg e => by have := a.ge g e; simp at hg; omega)
  exact ⟨hc, h.oR.ch hw (by simp; omega), h.oN.ch hw (by simp; omega), key h.aK, key h.aV, key h.aI, ⟨h1, h2, h3, h4, h5, Nat.le_trans h6 hw.size⟩, ((h.wb.ch [gE, gA]).same hw).bl (by have := h.w0b; simp; omega), h.w0b, h.ap⟩
theorem app_ne {w : World} {b1 b2 : Nat} {e e' : TypeId} {s s' n n' : Nat} {v v' : Value} {cs cs' : List Value} (h : App w b1 e s v n cs) (h' : App w b2 e' s' v' n' cs') (hne : e ≠ e') : v.ownBlock = none ∨ v.ownBlock ≠ v'.ownBlock := by
  rcases h.is with ⟨rfl, _⟩ | ⟨g, o, cap, cur, rfl, _, hg, _⟩
  · exact .inl rfl
  · right
    rcases h'.is with ⟨rfl, _⟩ | ⟨g', o', cap', cur', rfl, _, hg', _⟩
    · simp [Value.ownBlock]
    · intro e1
      simp [Value.ownBlock] at e1
      subst e1
      rw [hg] at hg'
      injection hg' with hg'
      injection hg' with _ ht
      exact hne ht
theorem ne_swap {a b : Option Nat} (h : a = none ∨ a ≠ b) : b = none ∨ b ≠ a := by
  cases b with
  | none => exact .inl rfl
  | some x =>
    right
    rcases h with h | h
    · rw [h]; simp
    · exact fun e => h e.symm
/-- What an append to one of the three leaves, and the store of it. -/
theorem GetSt.grow {w0 : World} {k : Int} {gB gR gA gE gN base : Nat} {A : Option Addr} {n c : Nat} {w w' : World} {p e : Int} {ks vs : List ByteArray} {is : List Int} {K V I X : Value} (h : GetSt w0 k gB gR gA gE gN base A n c w p e ks vs is K V I) (hg : w.grownBy w' X.ownBlock) (hX : ∀ g, X.ownBlock = some g → base ≤ g) (i : Nat) (u : Value) :
    Cap (w'.setCell ⟨gN, i, none⟩ u) gE gB gA A n c p e ∧ Ob (w'.setCell ⟨gN, i, none⟩ u) gR 52 #[.int .u8 0, .slice none 0 0, .slice none 0 0, .slice none 0 0] ∧ Ob w' gN 52 #[.int .u8 k, K, V, I] ∧ (gB < gR ∧ gR < gA ∧ gA < gE ∧ gE < gN ∧ gN < base ∧ base ≤ (w'.setCell ⟨gN, i, none⟩ u).heap.size) ∧ Bl w0 (w'.setCell ⟨gN, i, none⟩ u) ∧
    (∀ {T : TypeId} {v : Value} {m : Nat} {cs : List Value}, App w base T 1 v m cs → (v.ownBlock = none ∨ v.ownBlock ≠ X.ownBlock) → App (w'.setCell ⟨gN, i, none⟩ u) base T 1 v m cs) := by
  obtain ⟨h1, h2, h3, h4, h5, h6⟩ := h.ord
  have hch := Ch.grown hg
  have nin : ∀ g, g < base → g ∉ X.ownBlock.toList := fun g hlt hm => by
    simp at hm
    have := hX g hm
    omega
  have hp := Ch.put w' gN i u
  refine ⟨⟨(h.cap.oE.ch hch (nin _ (by omega))).ch hp (by simp; omega), (h.cap.oB.ch hch (nin _ (by omega))).ch hp (by simp; omega), (h.cap.oA.ch hch (nin _ (by omega))).ch hp (by simp; omega), h.cap.neB⟩, (h.oR.ch hch (nin _ (by omega))).ch hp (by simp; omega), h.oN.ch hch (nin _ (by omega)), ⟨h1, h2, h3, h4, h5, Nat.le_trans h6 (Nat.le_trans hch.size hp.size)⟩, (h.wb.grown hg (fun q hq => by have := hX q hq; have := h.w0b; omega)).setCell (by have := h.w0b; show w0.heap.size ≤ gN; omega) u, ?_⟩
  intro T v m cs ha hne
  exact (ha.kept hg hne).ch hp (fun g hm e => by have := ha.ge g e; simp at hm; omega)
theorem GetSt.keys {w0 : World} {k : Int} {gB gR gA gE gN base : Nat} {A : Option Addr} {n c : Nat} {w w' : World} {p e : Int} {ks vs : List ByteArray} {is : List Int} {K V I K' : Value} {x : ByteArray} (h : GetSt w0 k gB gR gA gE gN base A n c w p e ks vs is K V I)
    (ha : App w' base 9 1 K' (ks.length + 1) (ks.map sv ++ [sv x])) (hg : w.grownBy w' K.ownBlock) (hat : K'.ownBlock = K.ownBlock ∨ K'.ownBlock = some w.heap.size) : GetSt w0 k gB gR gA gE gN base A n c (w'.setCell ⟨gN, 1, none⟩ K') p e (ks ++ [x]) vs is K' V I := by
  obtain ⟨r1, r2, r3, r4, rb, r5⟩ := h.grow hg h.aK.ge 1 K'
  refine ⟨r1, r2, by have := r3.set 1 K'; simpa using this, ?_, r5 h.aV (ne_swap h.ap), r5 h.aI (ne_swap (app_ne h.aK h.aI (by decide))), r4, rb, h.w0b, ?_⟩
  · have := ha.ch (Ch.put w' gN 1 K') (fun g hm e => by have := ha.ge g e; have := r4; simp at hm; omega)
    simpa using this
  · rcases hat with e1 | e1
    · rw [e1]; exact h.ap
    · right; rw [e1]; intro e2; have := (h.aV.lt _ e2.symm).2; omega
theorem GetSt.vals {w0 : World} {k : Int} {gB gR gA gE gN base : Nat} {A : Option Addr} {n c : Nat} {w w' : World} {p e : Int} {ks vs : List ByteArray} {is : List Int} {K V I V' : Value} {x : ByteArray} (h : GetSt w0 k gB gR gA gE gN base A n c w p e ks vs is K V I)
    (ha : App w' base 9 1 V' (vs.length + 1) (vs.map sv ++ [sv x])) (hg : w.grownBy w' V.ownBlock) (hat : V'.ownBlock = V.ownBlock ∨ V'.ownBlock = some w.heap.size) : GetSt w0 k gB gR gA gE gN base A n c (w'.setCell ⟨gN, 2, none⟩ V') p e ks (vs ++ [x]) is K V' I := by
  obtain ⟨r1, r2, r3, r4, rb, r5⟩ := h.grow hg h.aV.ge 2 V'
  refine ⟨r1, r2, by have := r3.set 2 V'; simpa using this, r5 h.aK h.ap, ?_, r5 h.aI (ne_swap (app_ne h.aV h.aI (by decide))), r4, rb, h.w0b, ?_⟩
  · have := ha.ch (Ch.put w' gN 2 V') (fun g hm e => by have := ha.ge g e; have := r4; simp at hm; omega)
    simpa using this
  · rcases hat with e1 | e1
    · rw [e1]; exact h.ap
    · rcases hk : K.ownBlock with _ | g
      · exact .inl rfl
      · right; rw [e1]; intro e2; simp at e2; have := (h.aK.lt g hk).2; omega
theorem GetSt.kids {w0 : World} {k : Int} {gB gR gA gE gN base : Nat} {A : Option Addr} {n c : Nat} {w w' : World} {p e : Int} {ks vs : List ByteArray} {is : List Int} {K V I I' : Value} {x : Int} (h : GetSt w0 k gB gR gA gE gN base A n c w p e ks vs is K V I)
    (ha : App w' base 3 1 I' (is.length + 1) (is.map iv ++ [iv x])) (hg : w.grownBy w' I.ownBlock) : GetSt w0 k gB gR gA gE gN base A n c (w'.setCell ⟨gN, 3, none⟩ I') p e ks vs (is ++ [x]) K V I' := by
  obtain ⟨r1, r2, r3, r4, rb, r5⟩ := h.grow hg h.aI.ge 3 I'
  refine ⟨r1, r2, by have := r3.set 3 I'; simpa using this, r5 h.aK (app_ne h.aK h.aI (by decide)), r5 h.aV (app_ne h.aV h.aI (by decide)), ?_, r4, rb, h.w0b, h.ap⟩
  have := ha.ch (Ch.put w' gN 3 I') (fun g hm e => by have := ha.ge g e; have := r4; simp at hm; omega)
  simpa using this
/-- The loop from a state on, with its error. -/
def ndGoes (k : Int) (b : List UInt8) (m : Nat) (p e : Int) (ks vs : List ByteArray) (is : List Int) : NodeR := if e ≠ 0 then nodeNo e else nodeLoop k b m p ks vs is
theorem ndNum_facts (b : List UInt8) (most p e : Int) (hm : 0 ≤ most) (hp : 0 ≤ p ∧ p ≤ b.length) : 0 ≤ (ndNum b most p e).1 ∧ (ndNum b most p e).1 ≤ most ∧ 0 ≤ (ndNum b most p e).2.1 ∧ (ndNum b most p e).2.1 ≤ b.length := by
  unfold ndNum
  split
  · simp; omega
  · rcases lebCount_or b p most with ⟨f, h, hf, _⟩ | ⟨v, m, h, _, _, hv, hml, _⟩
    · rw [h, if_neg hf]; simp; omega
    · rw [h, if_pos rfl]; simp; omega
theorem ndText_facts (b : List UInt8) (most p e : Int) (hm : 0 ≤ most) (hp : 0 ≤ p ∧ p ≤ b.length) : ((ndText b most p e).1.length : Int) ≤ most ∧ 0 ≤ (ndText b most p e).2.1 ∧ (ndText b most p e).2.1 ≤ b.length := by
  unfold ndText
  split
  · simp; omega
  · rcases lebRow_or b p most with ⟨f, h, hf, _⟩ | ⟨xs, m, h, h1, h2, h3⟩
    · rw [h, if_neg hf]; simp; omega
    · rw [h, if_pos rfl]; simp; omega
theorem ndGoes_kids (b : List UInt8) (m : Nat) (p : Int) (ks vs : List ByteArray) (is : List Int) :
    ndGoes 2 b (m + 1) p 0 ks vs is = ndGoes 2 b m (ndNum b 65535 (ndText b 40 p 0).2.1 (ndText b 40 p 0).2.2).2.1 (ndNum b 65535 (ndText b 40 p 0).2.1 (ndText b 40 p 0).2.2).2.2 (ks ++ [⟨(ndText b 40 p 0).1.toArray⟩]) vs (is ++ [(ndNum b 65535 (ndText b 40 p 0).2.1 (ndText b 40 p 0).2.2).1]) := by
  unfold ndGoes
  rw [if_neg (by simp), nodeLoop]
  rcases lebRow_or b p 40 with ⟨f, h, hf, _⟩ | ⟨xs, q, h, _⟩
  · have e1 : ndText b 40 p 0 = ([], p, f) := by unfold ndText; rw [if_neg (by simp), h, if_neg hf]
    have e2 : ndNum b 65535 p f = (0, p, f) := by unfold ndNum; rw [if_pos hf]
    rw [e1]; simp only; rw [e2, h, if_pos hf]; simp [hf]
  · have e1 : ndText b 40 p 0 = (xs, (q : Int), 0) := by unfold ndText; rw [if_neg (by simp), h, if_pos rfl]
    rw [e1, h]; simp only; rw [if_neg (by simp), if_pos trivial]
    rcases lebCount_or b q 65535 with ⟨f, h2, hf, _⟩ | ⟨v, m2, h2, _⟩
    · have e2 : ndNum b 65535 q 0 = (0, (q : Int), f) := by unfold ndNum; rw [if_neg (by simp), h2, if_neg hf]
      rw [e2, h2]; simp only; rw [if_pos hf, if_pos hf]
    · have e2 : ndNum b 65535 q 0 = ((v : Int), (m2 : Int), 0) := by unfold ndNum; rw [if_neg (by simp), h2, if_pos rfl]
      rw [e2, h2]; try simp
theorem ndGoes_vals (k : Int) (hk : k ≠ 2) (b : List UInt8) (m : Nat) (p : Int) (ks vs : List ByteArray) (is : List Int) :
    ndGoes k b (m + 1) p 0 ks vs is = ndGoes k b m (ndText b 40 (ndText b 40 p 0).2.1 (ndText b 40 p 0).2.2).2.1 (ndText b 40 (ndText b 40 p 0).2.1 (ndText b 40 p 0).2.2).2.2 (ks ++ [⟨(ndText b 40 p 0).1.toArray⟩]) (vs ++ [⟨(ndText b 40 (ndText b 40 p 0).2.1 (ndText b 40 p 0).2.2).1.toArray⟩]) is := by
  unfold ndGoes
  rw [if_neg (by simp), nodeLoop]
  rcases lebRow_or b p 40 with ⟨f, h, hf, _⟩ | ⟨xs, q, h, _⟩
  · have e1 : ndText b 40 p 0 = ([], p, f) := by unfold ndText; rw [if_neg (by simp), h, if_neg hf]
    have e2 : ndText b 40 p f = ([], p, f) := by unfold ndText; rw [if_pos hf]
    rw [e1]; simp only; rw [e2, h, if_pos hf]; simp [hf]
  · have e1 : ndText b 40 p 0 = (xs, (q : Int), 0) := by unfold ndText; rw [if_neg (by simp), h, if_pos rfl]
    rw [e1, h]; simp only; rw [if_neg (by simp), if_neg hk]
    rcases lebRow_or b q 40 with ⟨f, h2, hf, _⟩ | ⟨v, m2, h2, _⟩
    · have e2 : ndText b 40 q 0 = ([], (q : Int), f) := by unfold ndText; rw [if_neg (by simp), h2, if_neg hf]
      rw [e2, h2]; simp only; rw [if_pos hf, if_pos hf]
    · have e2 : ndText b 40 q 0 = (v, (m2 : Int), 0) := by unfold ndText; rw [if_neg (by simp), h2, if_pos rfl]
      rw [e2, h2]; try simp
theorem nodeGet_inner (b : List UInt8) : nodeGet 2 b = ndGoes 2 b (ndNum b 6 0 0).1.toNat (ndNum b 65535 (ndNum b 6 0 0).2.1 (ndNum b 6 0 0).2.2).2.1 (ndNum b 65535 (ndNum b 6 0 0).2.1 (ndNum b 6 0 0).2.2).2.2 [] [] [(ndNum b 65535 (ndNum b 6 0 0).2.1 (ndNum b 6 0 0).2.2).1] := by
  unfold ndGoes nodeGet
  rw [if_neg (by simp)]
  rcases lebCount_or b 0 6 with ⟨f, h, hf, _⟩ | ⟨v, q, h, _⟩
  · have e1 : ndNum b 6 0 0 = (0, 0, f) := by unfold ndNum; rw [if_neg (by simp), h, if_neg hf]
    have e2 : ndNum b 65535 0 f = (0, 0, f) := by unfold ndNum; rw [if_pos hf]
    rw [e1]; simp only; rw [e2, h, if_pos hf]; simp [hf]
  · have e1 : ndNum b 6 0 0 = ((v : Int), (q : Int), 0) := by unfold ndNum; rw [if_neg (by simp), h, if_pos rfl]
    rw [e1, h]; simp only; rw [if_neg (by simp), if_pos trivial]
    rcases lebCount_or b q 65535 with ⟨f, h2, hf, _⟩ | ⟨v, m2, h2, _⟩
    · have e2 : ndNum b 65535 q 0 = (0, (q : Int), f) := by unfold ndNum; rw [if_neg (by simp), h2, if_neg hf]
      rw [e2, h2]; simp only; rw [if_pos hf, if_pos hf]
    · have e2 : ndNum b 65535 q 0 = ((v : Int), (m2 : Int), 0) := by unfold ndNum; rw [if_neg (by simp), h2, if_pos rfl]
      rw [e2, h2]; try simp
theorem nodeGet_leaf (b : List UInt8) : nodeGet 1 b = ndGoes 1 b (ndNum b 6 0 0).1.toNat (ndNum b 6 0 0).2.1 (ndNum b 6 0 0).2.2 [] [] [] := by
  unfold ndGoes nodeGet
  rw [if_neg (by simp)]
  rcases lebCount_or b 0 6 with ⟨f, h, hf, _⟩ | ⟨v, q, h, _⟩
  · have e1 : ndNum b 6 0 0 = (0, 0, f) := by unfold ndNum; rw [if_neg (by simp), h, if_neg hf]
    rw [e1]; simp only; rw [h, if_pos hf, if_pos hf]
  · have e1 : ndNum b 6 0 0 = ((v : Int), (q : Int), 0) := by unfold ndNum; rw [if_neg (by simp), h, if_pos rfl]
    rw [e1, h]; simp only; rw [if_neg (by simp), if_neg (by simp), if_neg (by simp)]
end Go.Proofs.Ytedmamchfgkkfaa
