/- Texts of the claim SimfsTwice, part 8: Lib5, SimOp. -/
import Derived.Test.YthphonkiolmkiaaGSimfsTwice1
import Derived.Deep.Slices
import Derived.Deep.Fields
import Derived.ChangeSame
import Derived.SizedLaws
import Derived.Test.YthphonkiolmkiaaGSimfsTwice4
/- Words that the proofs of this seat share: arguments opened, from the datum that they read as. No program in sight. -/
namespace Go.Proofs.Ythphonkiolmkiaa
open Go.RowKit Go.ChangeShapes Go.WideShapes Go.Deep

theorem choose_list {α : Type} {p : Nat → α → Prop} (n : Nat) (h : ∀ i, i < n → ∃ a, p i a) : ∃ l : List α, l.length = n ∧ ∀ i a, l[i]? = some a → p i a := by
  induction n with
  | zero => exact ⟨[], rfl, fun i a h => by simp at h⟩
  | succ n ih =>
    obtain ⟨l, hl, hp⟩ := ih (fun i hi => h i (by omega))
    obtain ⟨a, ha⟩ := h n (by omega)
    refine ⟨l ++ [a], by simp [hl], fun i b hb => ?_⟩
    rcases Nat.lt_or_ge i n with hi | hi
    · rw [List.getElem?_append_left (by omega)] at hb; exact hp i b hb
    · rw [List.getElem?_append_right (by omega)] at hb
      have : i - l.length = 0 := by
        rcases Nat.eq_zero_or_pos (i - l.length) with h0 | h0
        · exact h0
        · rw [List.getElem?_eq_none (by simp; omega)] at hb; cases hb
      rw [this] at hb
      simp only [List.getElem?_cons_zero, Option.some.injEq] at hb
      subst hb
      have hin : i = n := by omega
      rw [hin]; exact ha
theorem flat_get {α : Type} (f : α → List Value) (k : Nat) (l : List α) (hk : ∀ a ∈ l, (f a).length = k) : ∀ (j : Nat) (v : Value), (l.flatMap f)[j]? = some v → ∃ i a r, l[i]? = some a ∧ r < k ∧ j = i * k + r ∧ (f a)[r]? = some v := by
  induction l with
  | nil => intro j v h; simp at h
  | cons a l ih =>
    intro j v h
    rw [List.flatMap_cons] at h
    have ha := hk a (by simp)
    rcases Nat.lt_or_ge j k with hj | hj
    · rw [List.getElem?_append_left (by omega)] at h
      exact ⟨0, a, j, by simp, hj, by omega, h⟩
    · rw [List.getElem?_append_right (by omega), ha] at h
      obtain ⟨i, b, r, h1, h2, h3, h4⟩ := ih (fun x hx => hk x (by simp [hx])) _ _ h
      exact ⟨i + 1, b, r, by simpa using h1, h2, by rw [Nat.add_mul]; omega, h4⟩
theorem flat_one {α : Type} (g : α → Value) (l : List α) : l.flatMap (fun a => [g a]) = l.map g := by
  induction l with
  | nil => rfl
  | cons a l ih => simp [ih]

/-- What is met in reading a datum takes no more than the form's reach. -/
def Sz {H : Type} (P : Program) (t : TypeId) (d : DataW H) : Prop := ∀ n ∈ d.weights P t, n ≤ 140737488351232
theorem sz_of {H : Type} {P : Program} {ts : List TypeId} {ds : List (DataW H)} (h : (DataW.weightsEach P ts ds).all (· ≤ reachBytes) = true) (j : Nat) {t : TypeId} {d : DataW H} (ht : ts[j]? = some t) (hd : ds[j]? = some d) : Sz P t d := fun n hn => by
  have := List.all_eq_true.1 h _ (DataW.weights_mem_each ht hd n hn)
  exact of_decide_eq_true this
theorem all_mem {H : Type} {P : Program} {e : TypeId} : ∀ {ds : List (DataW H)} {d : DataW H}, d ∈ ds → ∀ n ∈ d.weights P e, n ∈ DataW.weightsAll P e ds
  | d0 :: ds, d, hd, n, hn => by
    simp only [DataW.weightsAll, List.mem_append]
    rcases List.mem_cons.1 hd with rfl | hd
    · exact .inl hn
    · exact .inr (all_mem hd n hn)
theorem sz_slice {H : Type} {P : Program} {t e : TypeId} {xs ys : List (DataW H)} (hu : P.underlying t = some (.slice e)) (h : Sz P t (.slice xs ys)) : (xs.length + ys.length) * P.bytesOf e ≤ 140737488351232 ∧ ∀ d ∈ xs, Sz P e d := by
  unfold Sz at h
  simp only [DataW.weights, hu, List.mem_cons, List.mem_append] at h
  exact ⟨h _ (.inl rfl), fun d hd n hn => h n (.inr (.inl (all_mem hd n hn)))⟩
theorem sz_agg {H : Type} {P : Program} {t : TypeId} {fs : Array Field} {xs : List (DataW H)} (hu : P.underlying t = some (.struct fs)) (h : Sz P t (.agg xs)) (j : Nat) {f : Field} {d : DataW H} (hf : fs[j]? = some f) (hd : xs[j]? = some d) : Sz P f.type d := fun n hn => by
  unfold Sz at h
  simp only [DataW.weights, hu] at h
  exact h n (DataW.weights_mem_each (j := j) (by simp [hf]) hd n hn)
theorem sz_str {H : Type} {P : Program} {t : TypeId} {s : ByteArray} (h : Sz (H := H) P t (.lit (.string s.data.toList))) : s.size ≤ 140737488351232 := by
  have := h s.data.toList.length (by simp [DataW.weights])
  simpa using this

section
variable {H : Type} {enc : TypeId × Value → H} {P : Program} {w : World} {base : Nat} {held : Bool}
/-- A slice, its elements of k cells each. -/
theorem o_slice {α : Type} (f : α → List Value) (Q : α → Prop) {t e : TypeId} {k B fuel : Nat} {cs : List Value} {x : DataW H × List MemPlace} (ht : P.underlying t = some (.slice e)) (hc : P.cellsOf e = k) (hB : P.bytesOf e = B)
    (el : ∀ (n : Nat) (cs : List Value) (y : DataW H × List MemPlace), cs.length = k → DataW.trod enc P w base (fun _ => true) held n e cs = some y → Sz P e y.1 → ∃ a, cs = f a ∧ Q a)
    (h : DataW.trod enc P w base (fun _ => true) held fuel t cs = some x) (hs : Sz P t x.1) :
    ∃ (A : Option Addr) (l : List α) (c : Nat), cs = [.slice A l.length c] ∧ l.length ≤ c ∧ c * B ≤ 140737488351232 ∧ Rd w A (l.flatMap f) ∧ ∀ a ∈ l, Q a := by
  rcases open_slice ht h with ⟨rfl, rfl⟩ | ⟨a, len, cap, m, n, D, Pl, rfl, hb, hl, hm, hmm, rfl, hx⟩
  · exact ⟨none, [], 0, rfl, Nat.le_refl _, by omega, Rd.nil _ _, fun a ha => by simp at ha⟩
  · simp only [if_true] at hmm
    subst hmm
    obtain ⟨hw1, hw2⟩ := sz_slice ht hs
    rw [hB] at hw1
    simp only [List.length_map, List.length_range] at hw1
    rw [show len + (m - len) = m by omega] at hw1
    obtain ⟨l, hll, hp⟩ := choose_list (p := fun i b => (∀ r v, (f b)[r]? = some v → r < k → w.cell? (a.add (i * k + r)) = some v) ∧ (f b).length = k ∧ Q b) len (fun i hi => by
      obtain ⟨cs', h1, h2⟩ := hx i (by omega)
      rw [hc] at h1
      obtain ⟨_, hlen, hat⟩ := World.cells?_some h1
      obtain ⟨b, rfl, hq⟩ := el _ _ _ hlen h2 (hw2 (D i) (List.mem_map.2 ⟨i, List.mem_range.2 hi, rfl⟩))
      refine ⟨b, fun r v hv hr => ?_, hlen, hq⟩
      have := hat r hr
      rw [add_add] at this
      rw [this, hv])
    have hmem : ∀ b ∈ l, (f b).length = k ∧ Q b := fun b hb => by
      obtain ⟨i, hi⟩ := List.mem_iff_getElem?.1 hb
      exact (hp i b hi).2
    refine ⟨some a, l, m, by rw [hll], by omega, hw1, ?_, fun b hb => (hmem b hb).2⟩
    intro hn
    have hflat := flat_get f k l (fun b hb => (hmem b hb).1)
    have hcell : ∀ j v, (l.flatMap f)[j]? = some v → w.cell? (a.add j) = some v := fun j v hv => by
      obtain ⟨i, b, r, h1, h2, h3, h4⟩ := hflat j v hv
      rw [h3]
      exact (hp i b h1).1 r v h4 h2
    obtain ⟨v0, hv0⟩ : ∃ v, (l.flatMap f)[0]? = some v := by
      cases hcs : l.flatMap f with
      | nil => exact absurd hcs hn
      | cons v r => exact ⟨v, rfl⟩
    have h0 := hcell 0 v0 hv0
    have hspot : a.spot = none := by
      rw [show a.add 0 = a from by simp [Addr.add]] at h0
      unfold World.cell? at h0
      split at h0
      · split at h0
        · cases h0
        · rename_i h; simpa using h
      · cases h0
    obtain ⟨b, o, s⟩ := a
    simp only at hspot
    subst hspot
    refine ⟨b, o, rfl, fun j v hv => ?_⟩
    have := hcell j v hv
    have ha : (⟨b, o, none⟩ : Addr).add j = ⟨b, o + j, none⟩ := by unfold Addr.add; split <;> simp_all
    rwa [ha] at this
theorem o_row {α : Type} (g : α → Value) (Q : α → Prop) {t e : TypeId} {B fuel : Nat} {cs : List Value} {x : DataW H × List MemPlace} (ht : P.underlying t = some (.slice e)) (hc : P.cellsOf e = 1) (hB : P.bytesOf e = B)
    (el : ∀ (n : Nat) (v : Value) (y : DataW H × List MemPlace), DataW.trod enc P w base (fun _ => true) held n e [v] = some y → Sz P e y.1 → ∃ a, v = g a ∧ Q a)
    (h : DataW.trod enc P w base (fun _ => true) held fuel t cs = some x) (hs : Sz P t x.1) :
    ∃ (A : Option Addr) (l : List α) (c : Nat), cs = [.slice A l.length c] ∧ l.length ≤ c ∧ c * B ≤ 140737488351232 ∧ Rd w A (l.map g) ∧ ∀ a ∈ l, Q a := by
  obtain ⟨A, l, c, h1, h2, h3, h4, h5⟩ := o_slice (fun a => [g a]) Q ht hc hB (fun n cs y hl hy hz => by
    match cs, hl with
    | [v], _ =>
      obtain ⟨a, rfl, hq⟩ := el n v y hy hz
      exact ⟨a, rfl, hq⟩) h hs
  rw [flat_one] at h4
  exact ⟨A, l, c, h1, h2, h3, h4, h5⟩
theorem o_u8 {e : TypeId} (he : P.underlying e = some (.int .u8)) (n : Nat) (v : Value) (y : DataW H × List MemPlace) (h : DataW.trod enc P w base (fun _ => true) held n e [v] = some y) : ∃ a : UInt8, v = bv a := by
  obtain ⟨z, hz, _, hwf⟩ := DataW.trod_int he h
  have hr : 0 ≤ z ∧ z < 256 := by simp [Lit.wf, IntKind.min, IntKind.max, IntKind.signed, IntKind.bits] at hwf; omega
  refine ⟨z.toNat.toUInt8, ?_⟩
  simp only [List.cons.injEq, and_true] at hz
  rw [hz, bv, u8_toNat _ (by omega)]
  congr 1; omega
theorem o_u64 {e : TypeId} (he : P.underlying e = some (.int .u64)) (n : Nat) (v : Value) (y : DataW H × List MemPlace) (h : DataW.trod enc P w base (fun _ => true) held n e [v] = some y) : ∃ a : Nat, v = wv a ∧ a < 18446744073709551616 := by
  obtain ⟨z, hz, _, hwf⟩ := DataW.trod_int he h
  have hr : 0 ≤ z ∧ z < 18446744073709551616 := by simp [Lit.wf, IntKind.min, IntKind.max, IntKind.signed, IntKind.bits] at hwf; omega
  refine ⟨z.toNat, ?_, by omega⟩
  simp only [List.cons.injEq, and_true] at hz
  rw [hz, wv]
  congr 1; omega
theorem o_i64 {e : TypeId} (he : P.underlying e = some (.int .i64)) (n : Nat) (v : Value) (y : DataW H × List MemPlace) (h : DataW.trod enc P w base (fun _ => true) held n e [v] = some y) : ∃ a : Int, v = iv a ∧ -9223372036854775808 ≤ a ∧ a ≤ 9223372036854775807 := by
  obtain ⟨z, hz, _, hwf⟩ := DataW.trod_int he h
  have hr : -9223372036854775808 ≤ z ∧ z ≤ 9223372036854775807 := by simp [Lit.wf, IntKind.min, IntKind.max, IntKind.signed, IntKind.bits] at hwf; omega
  simp only [List.cons.injEq, and_true] at hz
  exact ⟨z, hz, hr⟩
theorem o_u64i {e : TypeId} (he : P.underlying e = some (.int .u64)) {n : Nat} {v : Value} {y : DataW H × List MemPlace} (h : DataW.trod enc P w base (fun _ => true) held n e [v] = some y) : ∃ a : Int, v = .int .u64 a ∧ 0 ≤ a ∧ a < 18446744073709551616 := by
  obtain ⟨a, h1, h2⟩ := o_u64 he n v y h
  exact ⟨a, h1, by omega, by omega⟩
theorem o_u8i {e : TypeId} (he : P.underlying e = some (.int .u8)) {n : Nat} {v : Value} {y : DataW H × List MemPlace} (h : DataW.trod enc P w base (fun _ => true) held n e [v] = some y) : ∃ a : Int, v = .int .u8 a ∧ 0 ≤ a ∧ a < 256 := by
  obtain ⟨a, h1⟩ := o_u8 he n v y h
  have := a.toNat_lt
  exact ⟨a.toNat, h1, by omega, by omega⟩
theorem o_bool {e : TypeId} (he : P.underlying e = some .bool) {n : Nat} {v : Value} {y : DataW H × List MemPlace} (h : DataW.trod enc P w base (fun _ => true) held n e [v] = some y) : ∃ a : Bool, v = .bool a := by
  obtain ⟨z, hz, _⟩ := DataW.trod_bool he h
  simp only [List.cons.injEq, and_true] at hz
  exact ⟨z, hz⟩
theorem list4 {cs : Array Value} {a b c d : Value} (hl : cs.toList.length = 4) (h0 : cs.toList[0]? = some a) (h1 : cs.toList[1]? = some b) (h2 : cs.toList[2]? = some c) (h3 : cs.toList[3]? = some d) : cs = #[a, b, c, d] := by
  obtain ⟨l⟩ := cs
  match l, hl with
  | [x0, x1, x2, x3], _ => simp at h0 h1 h2 h3; subst h0 h1 h2 h3; rfl
theorem list6 {cs : Array Value} {a b c d e f : Value} (hl : cs.toList.length = 6) (h0 : cs.toList[0]? = some a) (h1 : cs.toList[1]? = some b) (h2 : cs.toList[2]? = some c) (h3 : cs.toList[3]? = some d) (h4 : cs.toList[4]? = some e) (h5 : cs.toList[5]? = some f) : cs = #[a, b, c, d, e, f] := by
  obtain ⟨l⟩ := cs
  match l, hl with
  | [x0, x1, x2, x3, x4, x5], _ => simp at h0 h1 h2 h3 h4 h5; subst h0 h1 h2 h3 h4 h5; rfl
theorem o_str {e : TypeId} (he : P.underlying e = some .string) (n : Nat) (v : Value) (y : DataW H × List MemPlace) (h : DataW.trod enc P w base (fun _ => true) held n e [v] = some y) (hs : Sz P e y.1) : ∃ a : ByteArray, v = sv a ∧ a.size ≤ 140737488351232 := by
  obtain ⟨s, hz, rfl, _⟩ := DataW.trod_string he h
  simp only [List.cons.injEq, and_true] at hz
  exact ⟨s, hz, sz_str hs⟩
theorem o_bytes {t e : TypeId} {fuel : Nat} {v : Value} {x : DataW H × List MemPlace} (ht : P.underlying t = some (.slice e)) (he : P.underlying e = some (.int .u8)) (hc : P.cellsOf e = 1) (hB : P.bytesOf e = 1)
    (h : DataW.trod enc P w base (fun _ => true) held fuel t [v] = some x) (hs : Sz P t x.1) : ∃ (A : Option Addr) (b : List UInt8) (c : Nat), v = .slice A b.length c ∧ b.length ≤ c ∧ c ≤ 140737488351232 ∧ Rd w A (b.map bv) := by
  obtain ⟨A, l, c, h1, h2, h3, h4, _⟩ := o_row bv (fun _ => True) ht hc hB (fun n v y hy _ => by obtain ⟨a, ha⟩ := o_u8 he n v y hy; exact ⟨a, ha, trivial⟩) h hs
  simp only [List.cons.injEq, and_true] at h1
  exact ⟨A, l, c, h1, h2, by omega, h4⟩
theorem o_words {t e : TypeId} {fuel : Nat} {v : Value} {x : DataW H × List MemPlace} (ht : P.underlying t = some (.slice e)) (he : P.underlying e = some (.int .u64)) (hc : P.cellsOf e = 1) (hB : P.bytesOf e = 8)
    (h : DataW.trod enc P w base (fun _ => true) held fuel t [v] = some x) (hs : Sz P t x.1) : ∃ (A : Option Addr) (b : List Nat) (c : Nat), v = .slice A b.length c ∧ b.length ≤ c ∧ c * 8 ≤ 140737488351232 ∧ Rd w A (b.map wv) ∧ ∀ a ∈ b, a < 18446744073709551616 := by
  obtain ⟨A, l, c, h1, h2, h3, h4, h5⟩ := o_row wv (fun a => a < 18446744073709551616) ht hc hB (fun n v y hy _ => o_u64 he n v y hy) h hs
  simp only [List.cons.injEq, and_true] at h1
  exact ⟨A, l, c, h1, h2, h3, h4, h5⟩
theorem o_ints {t e : TypeId} {fuel : Nat} {v : Value} {x : DataW H × List MemPlace} (ht : P.underlying t = some (.slice e)) (he : P.underlying e = some (.int .i64)) (hc : P.cellsOf e = 1) (hB : P.bytesOf e = 8)
    (h : DataW.trod enc P w base (fun _ => true) held fuel t [v] = some x) (hs : Sz P t x.1) : ∃ (A : Option Addr) (b : List Int) (c : Nat), v = .slice A b.length c ∧ b.length ≤ c ∧ c * 8 ≤ 140737488351232 ∧ Rd w A (b.map iv) ∧ ∀ a ∈ b, -9223372036854775808 ≤ a ∧ a ≤ 9223372036854775807 := by
  obtain ⟨A, l, c, h1, h2, h3, h4, h5⟩ := o_row iv (fun a => -9223372036854775808 ≤ a ∧ a ≤ 9223372036854775807) ht hc hB (fun n v y hy _ => o_i64 he n v y hy) h hs
  simp only [List.cons.injEq, and_true] at h1
  exact ⟨A, l, c, h1, h2, h3, h4, h5⟩
theorem o_texts {t e : TypeId} {fuel : Nat} {v : Value} {x : DataW H × List MemPlace} (ht : P.underlying t = some (.slice e)) (he : P.underlying e = some .string) (hc : P.cellsOf e = 1) (hB : P.bytesOf e = 16)
    (h : DataW.trod enc P w base (fun _ => true) held fuel t [v] = some x) (hs : Sz P t x.1) : ∃ (A : Option Addr) (b : List ByteArray) (c : Nat), v = .slice A b.length c ∧ b.length ≤ c ∧ c * 16 ≤ 140737488351232 ∧ Rd w A (b.map sv) ∧ ∀ a ∈ b, a.size ≤ 140737488351232 := by
  obtain ⟨A, l, c, h1, h2, h3, h4, h5⟩ := o_row sv (fun a => a.size ≤ 140737488351232) ht hc hB (fun n v y hy hz => o_str he n v y hy hz) h hs
  simp only [List.cons.injEq, and_true] at h1
  exact ⟨A, l, c, h1, h2, h3, h4, h5⟩
/-- A struct whose fields are of one cell each. -/
theorem o_struct {t : TypeId} {fs : Array Field} {fuel : Nat} {cs : List Value} {x : DataW H × List MemPlace} (hu : P.underlying t = some (.struct fs)) (hone : oneCellFields P fs = true) (hC : P.cellsOf t = fs.size)
    (h : DataW.trod enc P w base (fun _ => true) held fuel t cs = some x) (hs : Sz P t x.1) :
    cs.length = fs.size ∧ ∃ n, ∀ (j : Nat) (f : Field), fs[j]? = some f → ∃ (v : Value) (y : DataW H × List MemPlace), cs[j]? = some v ∧ DataW.trod enc P w base (fun _ => true) held n f.type [v] = some y ∧ Sz P f.type y.1 := by
  obtain ⟨xs, n, _, rfl, hlen, hxl, hf⟩ := DataW.trod_struct hu h
  refine ⟨hlen.trans hC, n, fun j f hj => ?_⟩
  obtain ⟨ho, hk⟩ := hone_of hone j f hj
  have hjl : j < fs.size := (Array.getElem?_eq_some_iff.1 hj).1
  have hcl : cs.length = fs.size := hlen.trans hC
  have h1 := hf j f hj
  rw [ho, hk] at h1
  have hd : (cs.drop j).take 1 = [cs[j]'(by omega)] := by rw [List.drop_eq_getElem_cons (by omega)]; rfl
  rw [hd] at h1
  have hys : xs[j]? = some (xs[j]'(by omega)) := List.getElem?_eq_getElem (by omega)
  refine ⟨_, _, List.getElem?_eq_getElem (by omega), h1.trans hys, ?_⟩
  exact sz_agg hu hs j hj (by rw [List.getElem?_map, hys]; rfl)
theorem o_struct_v {t : TypeId} {fs : Array Field} {v : Value} {r : Reach} {b0 : Nat} (hu : P.underlying t = some (.struct fs)) (hv : Value.okWide P w r b0 t v) : ∃ cs : Array Value, v = .agg cs ∧ v.cells.toList = cs.toList := by
  obtain ⟨cs, rfl, _⟩ := okWide_struct hu hv
  exact ⟨cs, rfl, rfl⟩
end
end Go.Proofs.Ythphonkiolmkiaa
/- Arguments of layer 14's laws opened: deeds, lists of deeds, numbers, rows of bytes. -/
set_option linter.unusedVariables false
set_option linter.unusedSimpArgs false
namespace Go.Proofs.Ythphonkiolmkiaa
open Go.RowKit Go.ChangeShapes Go.WideShapes Go.Deep
set_option maxRecDepth 100000
theorem Try.bytes_op : Try.prog.cellsOf 5 = 1 ∧ Try.prog.bytesOf 5 = 1 ∧ Try.prog.cellsOf 53 = 5 ∧ Try.prog.bytesOf 53 = 72 ∧ Try.prog.cellsOf 3 = 1 ∧ Try.prog.bytesOf 3 = 8 := ⟨by kernel_rfl, by kernel_rfl, by kernel_rfl, by kernel_rfl, by kernel_rfl, by kernel_rfl⟩
theorem list5 {cs : List Value} {a b c d e : Value} (hl : cs.length = 5) (h0 : cs[0]? = some a) (h1 : cs[1]? = some b) (h2 : cs[2]? = some c) (h3 : cs[3]? = some d) (h4 : cs[4]? = some e) : cs = [a, b, c, d, e] := by
  match cs, hl with
  | [x0, x1, x2, x3, x4], _ => simp at h0 h1 h2 h3 h4; subst h0 h1 h2 h3 h4; rfl
section
variable {H : Type} {enc : TypeId × Value → H} {w : World} {b0 base : Nat} {held : Bool} {v : Value} {d : DataW H} {p : List MemPlace}
theorem o_op {fuel : Nat} {cs : List Value} {y : DataW H × List MemPlace} (hy : DataW.trod enc Try.prog w base (fun _ => true) held fuel 53 cs = some y) (hz : Sz Try.prog 53 y.1) : ∃ o : OpA, cs = opv o ∧ OpOk w o := by
  obtain ⟨hl, n, hf⟩ := o_struct Try.underlying53 (by kernel_rfl) Try.bytes_op.2.2.1 hy hz
  obtain ⟨v0, y0, g0, t0, z0⟩ := hf 0 _ rfl
  obtain ⟨v1, y1, g1, t1, z1⟩ := hf 1 _ rfl
  obtain ⟨v2, y2, g2, t2, z2⟩ := hf 2 _ rfl
  obtain ⟨v3, y3, g3, t3, z3⟩ := hf 3 _ rfl
  obtain ⟨v4, y4, g4, t4, z4⟩ := hf 4 _ rfl
  obtain rfl := list5 hl g0 g1 g2 g3 g4
  obtain ⟨k, rfl⟩ := o_u8 Try.underlying5 _ _ _ t0
  obtain ⟨s, rfl, hs⟩ := o_str Try.underlying9 _ _ _ t1 z1
  obtain ⟨t, rfl, ht⟩ := o_str Try.underlying9 _ _ _ t2 z2
  obtain ⟨m, rfl, hm⟩ := o_i64 Try.underlying3 _ _ _ t3
  obtain ⟨A, b, c, rfl, hbc, hc, hr⟩ := o_bytes Try.underlying22 Try.underlying5 Try.bytes_op.1 Try.bytes_op.2.1 t4 z4
  exact ⟨⟨k.toNat, s, t, m, A, b, c⟩, rfl, k.toNat_lt, hs, ht, hm, ⟨hbc, hc⟩, hr⟩
theorem open_op (hval : Value.okWide Try.prog w .any b0 53 v) (h : DataW.Trod enc Try.prog w base (fun _ => true) held 53 v d p) (hs : Sz Try.prog 53 d) :
    ∃ o : OpA, v = .agg #[.int .u8 (o.call : Int), sE o.name, sE o.to_, .int .i64 o.off, .slice o.A o.b.length o.c] ∧ OpOk w o := by
  obtain ⟨cs, rfl, hcs⟩ := o_struct_v Try.underlying53 hval
  obtain ⟨fuel, ht⟩ := h
  obtain ⟨o, h1, h2⟩ := o_op ht hs
  refine ⟨o, ?_, h2⟩
  rw [hcs] at h1
  congr 1
  rw [← Array.toList_inj, h1]; rfl
theorem open_ops (hval : Value.okWide Try.prog w .any b0 50 v) (h : DataW.Trod enc Try.prog w base (fun _ => true) held 50 v d p) (hs : Sz Try.prog 50 d) :
    ∃ (A : Option Addr) (l : List OpA) (c : Nat), v = .slice A l.length c ∧ l.length ≤ c ∧ c * 72 ≤ 140737488351232 ∧ Rd w A (l.flatMap opv) ∧ ∀ o ∈ l, OpOk w o := by
  obtain ⟨a, l, c, rfl⟩ := okWide_slice Try.underlying50 hval
  obtain ⟨fuel, ht⟩ := h
  obtain ⟨A, l, c, h1, h2, h3, h4, h5⟩ := o_slice opv (fun o => OpOk w o) Try.underlying50 Try.bytes_op.2.2.1 Try.bytes_op.2.2.2.1 (fun n cs y hl hy hz => o_op hy hz) ht hs
  have h1' : [Value.slice a _ _] = [Value.slice A l.length c] := h1
  exact ⟨A, l, c, (List.cons.inj h1').1, h2, h3, h4, h5⟩
theorem open_bytes (hval : Value.okWide Try.prog w .any b0 22 v) (h : DataW.Trod enc Try.prog w base (fun _ => true) held 22 v d p) (hs : Sz Try.prog 22 d) :
    ∃ (A : Option Addr) (b : List UInt8) (c : Nat), v = .slice A b.length c ∧ b.length ≤ c ∧ c ≤ 140737488351232 ∧ Rd w A (b.map bv) := by
  obtain ⟨a, l, c, rfl⟩ := okWide_slice Try.underlying22 hval
  obtain ⟨fuel, ht⟩ := h
  exact o_bytes Try.underlying22 Try.underlying5 Try.bytes_op.1 Try.bytes_op.2.1 ht hs
theorem open_ints (hval : Value.okWide Try.prog w .any b0 24 v) (h : DataW.Trod enc Try.prog w base (fun _ => true) held 24 v d p) (hs : Sz Try.prog 24 d) :
    ∃ (A : Option Addr) (l : List Int) (c : Nat), v = .slice A l.length c ∧ l.length ≤ c ∧ c * 8 ≤ 140737488351232 ∧ Rd w A (l.map iE) ∧ ∀ z ∈ l, -9223372036854775808 ≤ z ∧ z ≤ 9223372036854775807 := by
  obtain ⟨a, l, c, rfl⟩ := okWide_slice Try.underlying24 hval
  obtain ⟨fuel, ht⟩ := h
  exact o_ints Try.underlying24 Try.underlying3 Try.bytes_op.2.2.2.2.1 Try.bytes_op.2.2.2.2.2 ht hs
theorem open_int (h : DataW.Trod enc Try.prog w base (fun _ => true) held 3 v d p) (hv : v.cells.toList = [v]) : ∃ z : Int, v = .int .i64 z ∧ -9223372036854775808 ≤ z ∧ z ≤ 9223372036854775807 := by
  obtain ⟨fuel, ht⟩ := h
  rw [hv] at ht
  exact o_i64 Try.underlying3 _ _ _ ht
end
end Go.Proofs.Ythphonkiolmkiaa
