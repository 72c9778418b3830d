/- Memory in parts: a list of chunks, each with blocks of its own; what is not listed stays. No program in sight. -/
import Derived.Test.YtedmamchfgkkfaaLib4
set_option linter.unusedVariables false
set_option linter.unusedSimpArgs false
namespace Go.Proofs.Ytedmamchfgkkfaa
open Go.RowKit
universe u

/-- A part of memory: which blocks it has, and what they hold. -/
structure Chunk where
  holds : World → (Nat → Prop) → Prop
  loc : ∀ {w w' : World} {S : Nat → Prop}, holds w S → (∀ b, S b → w'.heap[b]? = w.heap[b]?) → holds w' S
  lt : ∀ {w : World} {S : Nat → Prop} {b : Nat}, holds w S → S b → b < w.heap.size

def seps : List Chunk → World → (Nat → Prop) → Prop
  | [], _, _ => True
  | A :: cs, w, S => ∃ S1 S2 : Nat → Prop, (∀ b, S1 b → S b) ∧ (∀ b, S2 b → S b) ∧ (∀ b, S1 b → S2 b → False) ∧ A.holds w S1 ∧ seps cs w S2

theorem seps_loc : ∀ {cs : List Chunk} {w w' : World} {S : Nat → Prop}, seps cs w S → (∀ b, S b → w'.heap[b]? = w.heap[b]?) → seps cs w' S
  | [], _, _, _, _, _ => trivial
  | A :: cs, w, w', S, ⟨S1, S2, h1, h2, h3, h4, h5⟩, hk => ⟨S1, S2, h1, h2, h3, A.loc h4 (fun b hb => hk b (h1 b hb)), seps_loc h5 (fun b hb => hk b (h2 b hb))⟩
theorem seps_mono : ∀ {cs : List Chunk} {w : World} {S S' : Nat → Prop}, seps cs w S → (∀ b, S b → S' b) → seps cs w S'
  | [], _, _, _, _, _ => trivial
  | _ :: _, _, _, _, ⟨S1, S2, h1, h2, h3, h4, h5⟩, hk => ⟨S1, S2, fun b hb => hk b (h1 b hb), fun b hb => hk b (h2 b hb), h3, h4, h5⟩
/-- Only blocks that are there are had. -/
theorem seps_lt : ∀ {cs : List Chunk} {w : World} {S : Nat → Prop}, seps cs w S → seps cs w (fun b => S b ∧ b < w.heap.size)
  | [], _, _, _ => trivial
  | A :: cs, w, S, ⟨S1, S2, h1, h2, h3, h4, h5⟩ => ⟨S1, fun b => S2 b ∧ b < w.heap.size, fun b hb => ⟨h1 b hb, A.lt h4 hb⟩, fun b hb => ⟨h2 b hb.1, hb.2⟩, fun b x y => h3 b x y.1, h4, seps_lt h5⟩

/-- The memory of a call: the parts, and what stays of the world. -/
structure Mem (w0 : World) (cs : List Chunk) (w : World) : Prop where
  os : w.os = w0.os
  tape : w.tape = w0.tape
  output : w.output = w0.output
  parts : seps cs w (fun _ => True)

section
variable {w0 w w' : World} {cs ds : List Chunk} {A B : Chunk} {S : Nat → Prop}
/-- The first part becomes another one. -/
theorem seps_swap : seps (A :: B :: cs) w S → seps (B :: A :: cs) w S := fun ⟨S1, S2, h1, h2, h3, h4, S3, S4, k1, k2, k3, k4, k5⟩ =>
  ⟨S3, fun b => S1 b ∨ S4 b, fun b hb => h2 b (k1 b hb), fun b hb => hb.elim (h1 b) (fun h => h2 b (k2 b h)), fun b x y => y.elim (fun y => h3 b y (k1 b x)) (k3 b x), k4,
    S1, S4, fun b h => .inl h, fun b h => .inr h, fun b x y => h3 b x (k2 b y), h4, k5⟩
theorem seps_cons (k : ∀ {w : World} {S : Nat → Prop}, seps cs w S → seps ds w S) (h : seps (A :: cs) w S) : seps (A :: ds) w S := by
  obtain ⟨S1, S2, h1, h2, h3, h4, h5⟩ := h
  exact ⟨S1, S2, h1, h2, h3, h4, k h5⟩
theorem Mem.map (h : Mem w0 cs w) (k : ∀ {w : World} {S : Nat → Prop}, seps cs w S → seps ds w S) : Mem w0 ds w := ⟨h.os, h.tape, h.output, k h.parts⟩
theorem seps_perm {l m : List Chunk} (h : l.Perm m) : ∀ {w : World} {S : Nat → Prop}, seps l w S → seps m w S := by
  induction h with
  | nil => exact fun h => h
  | cons x _ ih => exact fun h => seps_cons ih h
  | swap x y l => exact fun h => seps_swap h
  | trans _ _ ih1 ih2 => exact fun h => ih2 (ih1 h)
theorem Mem.perm (h : Mem w0 cs w) (k : cs.Perm ds) : Mem w0 ds w := h.map (seps_perm k)
/-- Parts are let go. -/
theorem seps_drop : seps (A :: cs) w S → seps cs w S := fun ⟨_, _, _, h2, _, _, h5⟩ => seps_mono h5 h2
theorem Mem.drop (h : Mem w0 (A :: cs) w) : Mem w0 cs w := h.map seps_drop
theorem seps_sub {l m : List Chunk} (h : l.Sublist m) : ∀ {w : World} {S : Nat → Prop}, seps m w S → seps l w S := by
  induction h with
  | slnil => exact fun h => h
  | cons x _ ih => exact fun h => ih (seps_drop h)
  | cons_cons x _ ih => exact fun h => seps_cons ih h
theorem Mem.sub (h : Mem w0 cs w) (k : ds.Sublist cs) : Mem w0 ds w := h.map (seps_sub k)
/-- The k-th part is brought to the front. -/
def bring (k : Nat) (cs : List Chunk) : List Chunk := match cs[k]? with | some c => c :: cs.eraseIdx k | none => cs
theorem bring_perm : ∀ (k : Nat) (cs : List Chunk), cs.Perm (bring k cs)
  | k, [] => by simp [bring]
  | 0, c :: cs => by simp [bring]
  | k + 1, c :: cs => by
    have ih := bring_perm k cs
    unfold bring at ih ⊢
    simp only [List.getElem?_cons_succ, List.eraseIdx_cons_succ]
    split
    · rename_i d hd
      rw [hd] at ih
      exact (List.Perm.cons c ih).trans (List.Perm.swap d c _)
    · exact List.Perm.refl _
theorem Mem.bring (h : Mem w0 cs w) (k : Nat) : Mem w0 (bring k cs) w := h.perm (bring_perm k cs)
/-- Nothing of what was there has changed. -/
theorem Mem.bl (h : Mem w0 cs w) (k : Bl w w') : Mem w0 cs w' :=
  ⟨k.os.trans h.os, k.tape.trans h.tape, k.output.trans h.output, seps_mono (seps_loc (seps_lt h.parts) (fun b hb => k.block b hb.2)) (fun _ _ => trivial)⟩
theorem Mem.drew (h : Mem w0 cs w) : Mem w0 cs w.drew := h.bl (Bl.refl w).drew
theorem Mem.drewN (h : Mem w0 cs w) (n : Nat) : Mem w0 cs (w.drewN n) := h.bl ((Bl.refl w).drewN n)

/-- One block, known whole. -/
def blkO (g : Nat) (o : Obj) : Chunk where
  holds w S := (∀ b, S b ↔ b = g) ∧ w.heap[g]? = some o
  loc h k := ⟨h.1, (k g ((h.1 g).2 rfl)).trans h.2⟩
  lt h hb := by rw [(h.1 _).1 hb]; exact heap_lt h.2
abbrev blk (g : Nat) (T : TypeId) (cs : Array Value) : Chunk := blkO g (.cells cs T (0, 0))
/-- What was there at the beginning. -/
def old (v : World) : Chunk where
  holds w S := (∀ b, S b ↔ b < v.heap.size) ∧ v.heap.size ≤ w.heap.size ∧ ∀ b, b < v.heap.size → w.heap[b]? = v.heap[b]?
  loc {w w' S} h k := by
    refine ⟨h.1, ?_, fun b hb => (k b ((h.1 b).2 hb)).trans (h.2.2 b hb)⟩
    rcases Nat.eq_zero_or_pos v.heap.size with h0 | h0
    · omega
    · have h1 := k (v.heap.size - 1) ((h.1 _).2 (by omega))
      have h2 := h.2.2 (v.heap.size - 1) (by omega)
      rw [h2] at h1
      have h3 : v.heap.size - 1 < w'.heap.size := by
        rcases Nat.lt_or_ge (v.heap.size - 1) w'.heap.size with h | h
        · exact h
        · rw [Array.getElem?_eq_none h, Array.getElem?_eq_getElem (show v.heap.size - 1 < v.heap.size by omega)] at h1; cases h1
      omega
  lt h hb := by have := (h.1 _).1 hb; have := h.2.1; omega
theorem Mem.start (w : World) : Mem w [old w] w := ⟨rfl, rfl, rfl, fun b => b < w.heap.size, fun _ => False, fun _ _ => trivial, fun _ _ => trivial, fun _ _ h => h, ⟨fun _ => Iff.rfl, Nat.le_refl _, fun _ _ => rfl⟩, trivial⟩
theorem Mem.toBl (h : Mem w0 (old w0 :: cs) w) : Bl w0 w := by
  obtain ⟨_, _, _, _, _, h4, _⟩ := h.parts
  exact ⟨h.os, h.tape, h.output, h4.2.1, fun k hk => h4.2.2 k hk⟩
theorem Mem.toBlAt {v : World} (h : Mem w0 cs w) (k : Nat) (hk : cs[k]? = some (old v)) (ho : v.os = w0.os) (ht : v.tape = w0.tape) (hp : v.output = w0.output) : Bl v w := by
  have h2 := h.bring k
  unfold Go.Proofs.Ytedmamchfgkkfaa.bring at h2
  rw [hk] at h2
  obtain ⟨_, _, _, _, _, h4, _⟩ := h2.parts
  exact ⟨h.os.trans ho.symm, h.tape.trans ht.symm, h.output.trans hp.symm, h4.2.1, fun k hk => h4.2.2 k hk⟩

/-- A part is taken at its place. -/
theorem seps_at : ∀ {cs : List Chunk} {k : Nat} {A : Chunk} {w : World} {S : Nat → Prop}, seps cs w S → cs[k]? = some A → ∃ S1, A.holds w S1
  | _ :: _, 0, A, w, S, ⟨S1, _, _, _, _, h4, _⟩, hk => by simp at hk; subst hk; exact ⟨S1, h4⟩
  | _ :: cs, k + 1, A, w, S, ⟨_, _, _, _, _, _, h5⟩, hk => seps_at h5 (by simpa using hk)
theorem Mem.at (h : Mem w0 cs w) (k : Nat) {A : Chunk} (hk : cs[k]? = some A) : ∃ S, A.holds w S := seps_at h.parts hk
theorem Mem.blkO (h : Mem w0 cs w) (k : Nat) {g : Nat} {o : Obj} (hk : cs[k]? = some (blkO g o)) : w.heap[g]? = some o := by
  obtain ⟨S, _, h2⟩ := h.at k hk
  exact h2
theorem Mem.ob (h : Mem w0 cs w) (k : Nat) {g : Nat} {T : TypeId} {xs : Array Value} (hk : cs[k]? = some (blk g T xs)) : Ob w g T xs := h.blkO k hk
/-- A part changes: only its own blocks, and new ones, are written. -/
theorem seps_set : ∀ {cs : List Chunk} {k : Nat} {A : Chunk} {w : World} {S : Nat → Prop}, seps cs w S → cs[k]? = some A → (∀ b, S b → b < w.heap.size) →
    ∃ S1, A.holds w S1 ∧ (∀ b, S1 b → S b) ∧ ∀ (B : Chunk) (w' : World) (S' : Nat → Prop), B.holds w' S' → (∀ b, S' b → S1 b ∨ w.heap.size ≤ b) → (∀ b, b < w.heap.size → ¬ S1 b → w'.heap[b]? = w.heap[b]?) → seps (cs.set k B) w' (fun b => S b ∨ w.heap.size ≤ b)
  | A :: cs, 0, A', w, S, ⟨S1, S2, h1, h2, h3, h4, h5⟩, hk, hS => by
    simp at hk
    subst hk
    refine ⟨S1, h4, h1, fun B w' S' hB hS' hw => ⟨S', S2, fun b hb => (hS' b hb).imp (h1 b) id, fun b hb => .inl (h2 b hb), fun b x y => ?_, hB, seps_loc h5 (fun b hb => hw b (hS b (h2 b hb)) (fun h => h3 b h hb))⟩⟩
    rcases hS' b x with h | h
    · exact h3 b h y
    · have := hS b (h2 b y); omega
  | A :: cs, k + 1, A', w, S, ⟨S1, S2, h1, h2, h3, h4, h5⟩, hk, hS => by
    obtain ⟨S3, g1, g2, g3⟩ := seps_set h5 (by simpa using hk : cs[k]? = some A') (fun b hb => hS b (h2 b hb))
    refine ⟨S3, g1, fun b hb => h2 b (g2 b hb), fun B w' S' hB hS' hw => ⟨S1, fun b => S2 b ∨ w.heap.size ≤ b, fun b hb => .inl (h1 b hb), fun b hb => hb.imp (h2 b) id, fun b x y => ?_, ?_, g3 B w' S' hB hS' hw⟩⟩
    · rcases y with y | y
      · exact h3 b x y
      · have := hS b (h1 b x); omega
    · exact A.loc h4 (fun b hb => hw b (hS b (h1 b hb)) (fun h => h3 b hb (g2 b h)))
theorem Mem.set (h : Mem w0 cs w) (k : Nat) {A : Chunk} (hk : cs[k]? = some A) :
    ∃ S1, A.holds w S1 ∧ ∀ (B : Chunk) (w' : World) (S' : Nat → Prop), B.holds w' S' → (∀ b, S' b → S1 b ∨ w.heap.size ≤ b) → (∀ b, b < w.heap.size → ¬ S1 b → w'.heap[b]? = w.heap[b]?) → w'.os = w.os → w'.tape = w.tape → w'.output = w.output → Mem w0 (cs.set k B) w' := by
  obtain ⟨S1, h1, _, h2⟩ := seps_set (seps_lt h.parts) hk (fun b hb => hb.2)
  exact ⟨S1, h1, fun B w' S' hB hS hw e1 e2 e3 => ⟨e1.trans h.os, e2.trans h.tape, e3.trans h.output, seps_mono (h2 B w' S' hB hS hw) (fun _ _ => trivial)⟩⟩
/-- A part more: of new blocks. -/
theorem Mem.new (h : Mem w0 cs w) (k : Bl w w') {B : Chunk} {S : Nat → Prop} (hB : B.holds w' S) (hS : ∀ b, S b → w.heap.size ≤ b) : Mem w0 (B :: cs) w' := by
  refine ⟨k.os.trans h.os, k.tape.trans h.tape, k.output.trans h.output, S, fun b => b < w.heap.size, fun _ _ => trivial, fun _ _ => trivial, fun b x y => ?_, hB, ?_⟩
  · have := hS b x; omega
  · exact seps_mono (seps_loc (seps_lt h.parts) (fun b hb => k.block b hb.2)) (fun b hb => hb.2)
theorem Mem.alloc (h : Mem w0 cs w) (o : Obj) : Mem w0 (Go.Proofs.Ytedmamchfgkkfaa.blkO w.heap.size o :: cs) (w.alloc o) :=
  h.new ((Bl.refl w).alloc o) (S := fun b => b = w.heap.size) ⟨fun _ => Iff.rfl, heap_alloc_new w o⟩ (fun b hb => by omega)
/-- A block becomes another one. -/
theorem Mem.upd (h : Mem w0 cs w) (k : Nat) {g : Nat} {o : Obj} (hk : cs[k]? = some (Go.Proofs.Ytedmamchfgkkfaa.blkO g o)) (o' : Obj) (hg : w'.heap[g]? = some o') (hc : Ch [g] w w') : Mem w0 (cs.set k (Go.Proofs.Ytedmamchfgkkfaa.blkO g o')) w' := by
  obtain ⟨S1, ⟨h1, _⟩, h3⟩ := h.set k hk
  exact h3 _ w' (fun b => b = g) ⟨fun _ => Iff.rfl, hg⟩ (fun b hb => .inl ((h1 b).2 hb)) (fun b hb hn => hc.block b hb (fun hm => hn ((h1 b).2 (by simpa using hm)))) hc.os hc.tape hc.output
theorem Mem.put (h : Mem w0 cs w) (k : Nat) {g : Nat} {T : TypeId} {xs : Array Value} (hk : cs[k]? = some (blk g T xs)) (i : Nat) (v : Value) : Mem w0 (cs.set k (blk g T (xs.setIfInBounds i v))) (w.setCell ⟨g, i, none⟩ v) :=
  h.upd k hk _ ((h.ob k hk).set i v) (Ch.put w g i v)
theorem Mem.row (h : Mem w0 cs w) (k : Nat) {g : Nat} {T : TypeId} {xs : Array Value} (hk : cs[k]? = some (blk g T xs)) (ys : Array Value) : Mem w0 (cs.set k (blk g T ys)) (w.setRow g ys) :=
  h.upd k hk _ (h.ob k hk).row (Ch.setRow w g ys)
/-- Two blocks are two. -/
theorem seps_ne {g g' : Nat} {o o' : Obj} (h : seps (Go.Proofs.Ytedmamchfgkkfaa.blkO g o :: Go.Proofs.Ytedmamchfgkkfaa.blkO g' o' :: cs) w S) : g ≠ g' := by
  obtain ⟨S1, S2, _, _, h3, ⟨h4, _⟩, S3, S4, h6, _, _, ⟨h7, _⟩, _⟩ := h
  intro e
  exact h3 g ((h4 g).2 rfl) (h6 g ((h7 g).2 e))

/-- A slice of the call's own. -/
def row (T : TypeId) (size : Nat) (v : Value) (n : Nat) (xs : List Value) : Chunk where
  holds w S := (∀ b, S b ↔ v.ownBlock = some b) ∧ App w 0 T size v n xs
  loc {w w' S} h k := by
    refine ⟨h.1, h.2.len, ?_⟩
    rcases h.2.is with hn | ⟨g, o, cap, cur, rfl, hb, hgg, rest⟩
    · exact .inl hn
    · exact .inr ⟨g, o, cap, cur, rfl, hb, (k g ((h.1 g).2 rfl)).trans hgg, rest⟩
  lt h hb := (h.2.lt _ ((h.1 _).1 hb)).2
theorem Mem.app (h : Mem w0 cs w) (k : Nat) {T : TypeId} {size n : Nat} {v : Value} {xs : List Value} (hk : cs[k]? = some (Go.Proofs.Ytedmamchfgkkfaa.row T size v n xs)) : App w 0 T size v n xs := by
  obtain ⟨S, _, h2⟩ := h.at k hk
  exact h2
theorem Mem.newRow (h : Mem w0 cs w) (k : Bl w w') {T : TypeId} {size n : Nat} {v : Value} {xs : List Value} (ha : App w' w.heap.size T size v n xs) : Mem w0 (Go.Proofs.Ytedmamchfgkkfaa.row T size v n xs :: cs) w' :=
  h.new k (S := fun b => v.ownBlock = some b) ⟨fun _ => Iff.rfl, ha.mono (Nat.zero_le _)⟩ (fun b hb => ha.ge b hb)
theorem Mem.nilRow (h : Mem w0 cs w) (T : TypeId) (size : Nat) : Mem w0 (Go.Proofs.Ytedmamchfgkkfaa.row T size (.slice none 0 0) 0 [] :: cs) w :=
  h.new (Bl.refl w) (S := fun _ => False) ⟨fun _ => by simp [Value.ownBlock], App.nil _ _ _ _⟩ (fun b hb => hb.elim)
/-- What append(v, ..) makes of a row. -/
theorem Mem.grow (h : Mem w0 cs w) (k : Nat) {T : TypeId} {size n m : Nat} {v v' : Value} {xs ys : List Value} (hk : cs[k]? = some (Go.Proofs.Ytedmamchfgkkfaa.row T size v n xs)) (ha : App w' 0 T size v' m ys) (hg : w.grownBy w' v.ownBlock) (hat : v'.ownBlock = v.ownBlock ∨ v'.ownBlock = some w.heap.size) :
    Mem w0 (cs.set k (Go.Proofs.Ytedmamchfgkkfaa.row T size v' m ys)) w' := by
  obtain ⟨S1, ⟨h1, _⟩, h3⟩ := h.set k hk
  refine h3 _ w' (fun b => v'.ownBlock = some b) ⟨fun _ => Iff.rfl, ha⟩ (fun b hb => ?_) (fun b hb hn => ?_) hg.os hg.tape hg.output
  · rcases hat with e | e
    · left; rw [h1, ← e]; exact hb
    · right; rw [e] at hb; cases hb; exact Nat.le_refl _
  · refine hg.block b hb (fun e => hn ((h1 b).2 e.symm))
/-- What copy and stores make of it. -/
theorem Mem.wrote (h : Mem w0 cs w) (k : Nat) {T : TypeId} {size n m : Nat} {v : Value} {xs ys : List Value} (hk : cs[k]? = some (Go.Proofs.Ytedmamchfgkkfaa.row T size v n xs)) (ha : App w' 0 T size v m ys) (hg : w.grownBy w' v.ownBlock) : Mem w0 (cs.set k (Go.Proofs.Ytedmamchfgkkfaa.row T size v m ys)) w' :=
  h.grow k hk ha hg (.inl rfl)
/-- One part is made of several, or several of one. -/
theorem Mem.turn (h : Mem w0 cs w) {n : Nat} {A : List Chunk} (k : ∀ {w : World} {S : Nat → Prop}, seps (cs.take n) w S → seps A w S) : Mem w0 (A ++ cs.drop n) w := by
  refine h.map (fun {w S} h => ?_)
  have key : ∀ (n : Nat) (cs : List Chunk) (S : Nat → Prop), seps cs w S → ∃ S1 S2 : Nat → Prop, (∀ b, S1 b → S b) ∧ (∀ b, S2 b → S b) ∧ (∀ b, S1 b → S2 b → False) ∧ seps (cs.take n) w S1 ∧ seps (cs.drop n) w S2 := by
    intro n
    induction n with
    | zero => exact fun cs S h => ⟨fun _ => False, S, fun _ h => h.elim, fun _ h => h, fun _ h _ => h, trivial, h⟩
    | succ n ih =>
      intro cs S h
      cases cs with
      | nil => exact ⟨fun _ => False, S, fun _ h => h.elim, fun _ h => h, fun _ h _ => h, trivial, trivial⟩
      | cons a cs =>
        obtain ⟨S1, S2, h1, h2, h3, h4, h5⟩ := h
        obtain ⟨S3, S4, g1, g2, g3, g4, g5⟩ := ih cs S2 h5
        refine ⟨fun b => S1 b ∨ S3 b, S4, fun b hb => hb.elim (h1 b) (fun h => h2 b (g1 b h)), fun b hb => h2 b (g2 b hb), fun b x y => x.elim (fun x => h3 b x (g2 b y)) (fun x => g3 b x y), ?_, g5⟩
        exact ⟨S1, S3, fun b h => .inl h, fun b h => .inr h, fun b x y => h3 b x (g1 b y), h4, g4⟩
  obtain ⟨S1, S2, h1, h2, h3, h4, h5⟩ := key n cs S h
  have join : ∀ (A B : List Chunk) (S1 S2 S : Nat → Prop), seps A w S1 → seps B w S2 → (∀ b, S1 b → S b) → (∀ b, S2 b → S b) → (∀ b, S1 b → S2 b → False) → seps (A ++ B) w S := by
    intro A
    induction A with
    | nil => exact fun B S1 S2 S _ hb _ k2 _ => seps_mono hb k2
    | cons a A ih =>
      intro B S1 S2 S ⟨T1, T2, t1, t2, t3, t4, t5⟩ hb k1 k2 k3
      exact ⟨T1, fun b => T2 b ∨ S2 b, fun b h => k1 b (t1 b h), fun b h => h.elim (fun h => k1 b (t2 b h)) (k2 b), fun b x y => y.elim (t3 b x) (fun y => k3 b (t1 b x) y), t4, ih B T2 S2 _ t5 hb (fun _ h => .inl h) (fun _ h => .inr h) (fun b x y => k3 b (t2 b x) y)⟩
  exact join A _ S1 S2 S (k h4) h5 h1 h2 h3
/-- Several parts as one. -/
def tog (l : List Chunk) : Chunk where
  holds w S := seps l w S ∧ ∀ b, S b → b < w.heap.size
  loc {w w' S} h k := ⟨seps_loc h.1 k, fun b hb => by
    have h1 := h.2 b hb
    have h2 := k b hb
    rw [Array.getElem?_eq_getElem h1] at h2
    exact (Array.getElem?_eq_some_iff.1 h2).1⟩
  lt h hb := h.2 _ hb
theorem seps_tog {l cs : List Chunk} {w : World} {S : Nat → Prop} (h : seps (tog l :: cs) w S) : seps (l ++ cs) w S := by
  obtain ⟨S1, S2, h1, h2, h3, ⟨h4, h6⟩, h5⟩ := h
  clear h6
  induction l generalizing S S1 with
  | nil => exact seps_mono h5 h2
  | cons a l ih =>
    obtain ⟨T1, T2, t1, t2, t3, t4, t5⟩ := h4
    exact ⟨T1, fun b => T2 b ∨ S2 b, fun b h => h1 b (t1 b h), fun b h => h.elim (fun h => h1 b (t2 b h)) (h2 b), fun b x y => y.elim (t3 b x) (fun y => h3 b (t1 b x) y), t4,
      ih T2 (fun _ h => .inl h) (fun _ h => .inr h) (fun b x y => h3 b (t2 b x) y) t5⟩
theorem seps_untog {l cs : List Chunk} {w : World} {S : Nat → Prop} (h : seps (l ++ cs) w S) : seps (tog l :: cs) w S := by
  have key : ∀ (l : List Chunk) (S : Nat → Prop), seps (l ++ cs) w S → ∃ S1 S2 : Nat → Prop, (∀ b, S1 b → S b) ∧ (∀ b, S2 b → S b) ∧ (∀ b, S1 b → S2 b → False) ∧ seps l w S1 ∧ (∀ b, S1 b → b < w.heap.size) ∧ seps cs w S2 := by
    intro l
    induction l with
    | nil => exact fun S h => ⟨fun _ => False, S, fun _ h => h.elim, fun _ h => h, fun _ h _ => h, trivial, fun _ h => h.elim, h⟩
    | cons a l ih =>
      intro S ⟨T1, T2, t1, t2, t3, t4, t5⟩
      obtain ⟨S1, S2, g1, g2, g3, g4, g5, g6⟩ := ih T2 t5
      exact ⟨fun b => T1 b ∨ S1 b, S2, fun b h => h.elim (t1 b) (fun h => t2 b (g1 b h)), fun b h => t2 b (g2 b h), fun b x y => x.elim (fun x => t3 b x (g2 b y)) (fun x => g3 b x y), ⟨T1, S1, fun _ h => .inl h, fun _ h => .inr h, fun b x y => t3 b x (g1 b y), t4, g4⟩, fun b h => h.elim (a.lt t4) (g5 b), g6⟩
  obtain ⟨S1, S2, h1, h2, h3, h4, h5, h6⟩ := key l S h
  exact ⟨S1, S2, h1, h2, h3, ⟨h4, h5⟩, h6⟩
theorem Mem.open_ {l : List Chunk} (h : Mem w0 (tog l :: cs) w) : Mem w0 (l ++ cs) w := h.map seps_tog
theorem Mem.close {l : List Chunk} (h : Mem w0 (l ++ cs) w) : Mem w0 (tog l :: cs) w := h.map seps_untog
/-- A part of which something is not told. -/
def exs {α : Sort u} (f : α → Chunk) : Chunk where
  holds w S := ∃ x, (f x).holds w S
  loc h k := h.imp fun x hx => (f x).loc hx k
  lt h hb := h.elim fun x hx => (f x).lt hx hb
theorem Mem.ex {α : Sort u} {f : α → Chunk} (h : Mem w0 (exs f :: cs) w) : ∃ x, Mem w0 (f x :: cs) w := by
  obtain ⟨e1, e2, e3, S1, S2, h1, h2, h3, ⟨x, h4⟩, h5⟩ := h
  exact ⟨x, e1, e2, e3, S1, S2, h1, h2, h3, h4, h5⟩
theorem Mem.unex {α : Sort u} {f : α → Chunk} (x : α) (h : Mem w0 (f x :: cs) w) : Mem w0 (exs f :: cs) w := by
  obtain ⟨e1, e2, e3, S1, S2, h1, h2, h3, h4, h5⟩ := h
  exact ⟨e1, e2, e3, S1, S2, h1, h2, h3, ⟨x, h4⟩, h5⟩
/-- A part, and a fact. -/
def pur (p : Prop) : Chunk where
  holds _ S := (∀ b, ¬ S b) ∧ p
  loc h _ := h
  lt h hb := (h.1 _ hb).elim
theorem Mem.pur {p : Prop} (h : Mem w0 (Go.Proofs.Ytedmamchfgkkfaa.pur p :: cs) w) : p ∧ Mem w0 cs w := ⟨by obtain ⟨_, _, _, S1, S2, h1, h2, h3, h4, h5⟩ := h; exact h4.2, h.drop⟩
theorem Mem.unpur {p : Prop} (hp : p) (h : Mem w0 cs w) : Mem w0 (Go.Proofs.Ytedmamchfgkkfaa.pur p :: cs) w := h.new (Bl.refl w) (S := fun _ => False) ⟨fun _ h => h, hp⟩ (fun _ h => h.elim)
end
end Go.Proofs.Ytedmamchfgkkfaa
