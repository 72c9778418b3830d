/- Texts of the claim NodeMaps, part 7: NodeMp, Pairs, NodeSu, NodeJ, NodeK, NodeL. -/
import Derived.Test.YtedmamchfgkkfaaGNodeMaps6
import Derived.Test.YtedmamchfgkkfaaGNodeMaps3
import Derived.Test.YtedmamchfgkkfaaGNodeMaps2
/- Layer 18 (node), and lists of pairs (stookref20), as plain functions: a leaf that is set and cut has what a map has. No program in sight. -/
set_option linter.unusedVariables false
set_option linter.unusedSimpArgs false
namespace Go.Proofs.Ytedmamchfgkkfaa
open Go.RowKit

abbrev Pr := ByteArray × ByteArray
def pv (p : Pr) : List Value := [.string p.1, .string p.2]
def sEq (x y : ByteArray) : Bool := x.toList == y.toList
theorem sEq_iff {x y : ByteArray} : sEq x y = true ↔ x = y := by
  unfold sEq
  constructor
  · intro h; exact str_inj (by simpa using h)
  · rintro rfl; simp
theorem sEq_not {x y : ByteArray} : sEq x y = false ↔ x ≠ y := by
  rw [← Bool.not_eq_true, sEq_iff]
def prGet (l : List Pr) (key : ByteArray) : ByteArray × Bool := match l.find? (fun p => sEq p.1 key) with | some p => (p.2, true) | none => (.empty, false)
def prDel (l : List Pr) (key : ByteArray) : List Pr := l.filter (fun p => !sEq p.1 key)
def prGo (key value : ByteArray) : Bool → List Pr → List Pr
  | done, [] => if done then [] else [(key, value)]
  | done, x :: l => (if !done && !sLt x.1 key then [(key, value)] else []) ++ (if !sEq x.1 key then [x] else []) ++ prGo key value (done || !sLt x.1 key) l
def prPut (l : List Pr) (key value : ByteArray) : List Pr := prGo key value false l
theorem prGo_done (key value : ByteArray) (l : List Pr) : prGo key value true l = prDel l key := by
  induction l with
  | nil => rfl
  | cons x l ih =>
    unfold prGo
    simp only [Bool.not_true, Bool.false_and, Bool.true_or, ih]
    unfold prDel
    rw [List.filter_cons]
    cases h : sEq x.1 key <;> simp
theorem prGo_less (key value : ByteArray) (a b : List Pr) (h : ∀ x ∈ a, sLt x.1 key = true) : prGo key value false (a ++ b) = a ++ prGo key value false b := by
  induction a with
  | nil => rfl
  | cons x a ih =>
    have hx := h x (by simp)
    have hne : sEq x.1 key = false := sEq_not.2 (fun e => by rw [e, sLt_irrefl] at hx; cases hx)
    rw [List.cons_append]
    conv => lhs; unfold prGo
    simp only [hx, hne, Bool.not_true, Bool.and_false, Bool.not_false, Bool.or_false, if_true, Bool.false_eq_true, if_false, List.nil_append]
    rw [ih (fun y hy => h y (by simp [hy]))]
    rfl
theorem prDel_all (l : List Pr) (key : ByteArray) (h : ∀ x ∈ l, x.1 ≠ key) : prDel l key = l := by
  unfold prDel
  rw [List.filter_eq_self]
  intro x hx
  rw [sEq_not.2 (h x hx)]; rfl

/-- Keys rise: another way to say it. -/
theorem keysOK_iff {keys : List ByteArray} : keysOK keys = true ↔ (∀ x ∈ keys, 1 ≤ x.size ∧ x.size ≤ 40) ∧ keys.Pairwise (fun x y => sLt x y = true) := by
  constructor
  · intro h
    refine ⟨fun x hx => ?_, ?_⟩
    · obtain ⟨j, hj⟩ := List.mem_iff_getElem?.1 hx
      exact keysOK_at h hj
    · rw [List.pairwise_iff_getElem]
      intro i j hi hj hij
      exact keysOK_rise h (j - i - 1) (List.getElem?_eq_getElem hi) (by rw [show i + (j - i - 1) + 1 = j by omega]; exact List.getElem?_eq_getElem hj)
  · rintro ⟨h1, h2⟩
    refine keysOK_good fun j hj => ?_
    rw [List.pairwise_iff_getElem] at h2
    obtain ⟨x, hx⟩ := get_some keys j hj
    have hs := h1 x (List.mem_of_getElem? hx)
    rcases keyOK_cases hx with ⟨_, h⟩ | ⟨_, h⟩ | ⟨y, h0, hy, _, _, _, hlt⟩ | ⟨_, h, _⟩ | ⟨_, _, _, h, _⟩
    · omega
    · omega
    · have := h2 (j - 1) j (by omega) hj (by omega)
      have e1 : keys[j - 1] = y := by have := List.getElem?_eq_getElem (show j - 1 < keys.length by omega); rw [hy] at this; exact (Option.some.inj this).symm
      have e2 : keys[j] = x := by have := List.getElem?_eq_getElem hj; rw [hx] at this; exact (Option.some.inj this).symm
      rw [e1, e2, hlt] at this
      cases this
    · exact h
    · exact h
theorem countP_prefix {α : Type} (p : α → Bool) (l : List α) (h : l.Pairwise (fun x y => p y = true → p x = true)) : ∀ j x, l[j]? = some x → (p x = true ↔ j < l.countP p) := by
  induction l with
  | nil => intro j x hx; simp at hx
  | cons a l ih =>
    intro j x hx
    rw [List.pairwise_cons] at h
    have ih := ih h.2
    rw [List.countP_cons]
    cases ha : p a
    · have hz : l.countP p = 0 := by
        rw [List.countP_eq_zero]
        intro y hy hpy
        rw [h.1 y hy hpy] at ha; cases ha
      rw [hz]
      constructor
      · intro hpx
        cases j with
        | zero => simp at hx; subst hx; rw [ha] at hpx; cases hpx
        | succ j => have := h.1 x (List.mem_of_getElem? (by simpa using hx)) hpx; rw [ha] at this; cases this
      · intro hj; simp at hj
    · cases j with
      | zero => simp at hx; subst hx; simp [ha]
      | succ j =>
        have := ih j x (by simpa using hx)
        rw [this]
        simp
theorem findN_lt {keys : List ByteArray} (h : keysOK keys = true) (key : ByteArray) : ∀ j x, keys[j]? = some x → (sLt x key = true ↔ j < findN keys key) :=
  countP_prefix _ _ ((keysOK_iff.1 h).2.imp (fun hxy hy => sLt_trans hxy hy))
theorem take_less {keys : List ByteArray} (h : keysOK keys = true) (key : ByteArray) : ∀ x ∈ keys.take (findN keys key), sLt x key = true := by
  intro x hx
  obtain ⟨j, hj⟩ := List.mem_iff_getElem?.1 hx
  have hjl := (List.getElem?_eq_some_iff.1 hj).1
  rw [List.length_take] at hjl
  rw [List.getElem?_take_of_lt (by omega)] at hj
  exact (findN_lt h key j x hj).2 (by omega)
theorem drop_more {keys : List ByteArray} (h : keysOK keys = true) (key : ByteArray) : ∀ x ∈ keys.drop (findN keys key), sLt x key = false := by
  intro x hx
  obtain ⟨j, hj⟩ := List.mem_iff_getElem?.1 hx
  rw [List.getElem?_drop] at hj
  have := findN_lt h key _ x hj
  cases hs : sLt x key
  · rfl
  · have := this.1 hs; omega
theorem findIs_iff {keys : List ByteArray} (h : keysOK keys = true) (key : ByteArray) : findIs keys key = true ↔ key ∈ keys := by
  constructor
  · intro hf; exact List.mem_of_getElem? (findIs_at hf)
  · intro hm
    obtain ⟨j, hj⟩ := List.mem_iff_getElem?.1 hm
    have h1 := findN_lt h key j key hj
    rw [sLt_irrefl] at h1
    have h2 : findN keys key ≤ j := by
      apply Classical.byContradiction
      intro hn
      have := h1.2 (by omega)
      cases this
    have hjl := (List.getElem?_eq_some_iff.1 hj).1
    unfold findIs
    rcases Nat.eq_or_lt_of_le h2 with e | e
    · rw [e, hj]; simp
    · obtain ⟨y, hy⟩ := get_some keys (findN keys key) (by omega)
      have h3 := keysOK_rise h (j - findN keys key - 1) hy (by rw [show findN keys key + (j - findN keys key - 1) + 1 = j by omega]; exact hj)
      have h4 := (findN_lt h key _ y hy).1 h3
      omega
theorem drop_great {keys : List ByteArray} (h : keysOK keys = true) (key : ByteArray) : ∀ x ∈ keys.drop (findN keys key + if findIs keys key = true then 1 else 0), sLt key x = true := by
  intro x hx
  have hm : x ∈ keys.drop (findN keys key) := by
    rw [← List.drop_drop] at hx
    exact List.mem_of_mem_drop hx
  have h1 := drop_more h key x hm
  cases h2 : sLt key x
  · have e := sLt_total h1 h2
    subst e
    exfalso
    have hx2 := List.mem_of_mem_drop hm
    have hf := (findIs_iff h x).2 hx2
    rw [hf, if_pos rfl] at hx
    obtain ⟨j, hj⟩ := List.mem_iff_getElem?.1 hx
    rw [List.getElem?_drop] at hj
    have h3 := keysOK_rise h j (findIs_at hf) (by rw [show findN keys x + j + 1 = findN keys x + 1 + j by omega]; exact hj)
    rw [sLt_irrefl] at h3
    cases h3
  · rfl
theorem keysOK_put {keys : List ByteArray} (h : keysOK keys = true) {key : ByteArray} (h1 : 1 ≤ key.size) (h2 : key.size ≤ 40) : keysOK (putAt keys key (findN keys key) (findIs keys key)) = true := by
  obtain ⟨g1, g2⟩ := keysOK_iff.1 h
  rw [keysOK_iff]
  unfold putAt
  constructor
  · intro x hx
    rw [List.mem_append, List.mem_cons] at hx
    rcases hx with hx | rfl | hx
    · exact g1 x (List.mem_of_mem_take hx)
    · exact ⟨h1, h2⟩
    · exact g1 x (List.mem_of_mem_drop hx)
  · rw [List.pairwise_append, List.pairwise_cons]
    refine ⟨g2.sublist (List.take_sublist _ _), ⟨drop_great h key, g2.sublist (List.drop_sublist _ _)⟩, ?_⟩
    intro a ha b hb
    have ha := take_less h key a ha
    rcases List.mem_cons.1 hb with rfl | hb
    · exact ha
    · exact sLt_trans ha (drop_great h key b hb)
theorem keysOK_erase {keys : List ByteArray} (h : keysOK keys = true) (k : Nat) : keysOK (keys.eraseIdx k) = true := by
  obtain ⟨g1, g2⟩ := keysOK_iff.1 h
  exact keysOK_iff.2 ⟨fun x hx => g1 x (List.mem_of_mem_eraseIdx hx), g2.sublist (List.eraseIdx_sublist _ _)⟩

/-- The leaf that has just those pairs. -/
def leafOf (l : List Pr) : Nd := ⟨1, l.map (·.1), l.map (·.2), []⟩
def leafOK (l : List Pr) : Prop := keysOK (l.map (·.1)) = true ∧ valsOK (l.map (·.2)) = true ∧ l.length ≤ 12
theorem leafOK_nil : leafOK [] := ⟨rfl, rfl, by simp⟩
theorem leafOK.right {l : List Pr} (h : leafOK l) : nodeRight (leafOf l).k (leafOf l).keys (leafOf l).vals (leafOf l).kids 12 13 = true := by
  unfold leafOf
  exact right_leaf h.1 h.2.1 (by rw [List.length_map]; exact h.2.2) (by rw [List.length_map, List.length_map])
theorem map_putAt (l : List Pr) (x : Pr) (k : Nat) (is : Bool) : (putAt l x k is).map (·.1) = putAt (l.map (·.1)) x.1 k is ∧ (putAt l x k is).map (·.2) = putAt (l.map (·.2)) x.2 k is := by
  unfold putAt; simp [List.map_take, List.map_drop]
theorem map_erase (l : List Pr) (k : Nat) : (l.eraseIdx k).map (·.1) = (l.map (·.1)).eraseIdx k ∧ (l.eraseIdx k).map (·.2) = (l.map (·.2)).eraseIdx k := by
  simp [List.eraseIdx_eq_take_drop_succ, List.map_take, List.map_drop]
theorem prGet_is {l : List Pr} (h : keysOK (l.map (·.1)) = true) (key : ByteArray) : (prGet l key).2 = findIs (l.map (·.1)) key := by
  rw [Bool.eq_iff_iff, findIs_iff h]
  unfold prGet
  cases hf : l.find? (fun p => sEq p.1 key) with
  | none =>
    rw [List.find?_eq_none] at hf
    simp only [Bool.false_eq_true, false_iff]
    intro hm
    obtain ⟨p, hp, rfl⟩ := List.mem_map.1 hm
    exact hf p hp (sEq_iff.2 rfl)
  | some p =>
    simp only [true_iff]
    have h1 := List.find?_some hf
    exact List.mem_map.2 ⟨p, List.mem_of_find?_eq_some hf, sEq_iff.1 h1⟩
theorem split_at {α : Type} (l : List α) (k : Nat) (x : α) (h : l[k]? = some x) : l = l.take k ++ x :: l.drop (k + 1) := by
  have h1 : l.drop k = x :: l.drop (k + 1) := by
    have hk := (List.getElem?_eq_some_iff.1 h)
    rw [List.drop_eq_getElem_cons hk.1, hk.2]
  rw [← h1, List.take_append_drop]
theorem less_ne {x y : ByteArray} (h : sLt x y = true) : x ≠ y := fun e => by rw [e, sLt_irrefl] at h; cases h
theorem mem_fst_take {l : List Pr} {k : Nat} {x : Pr} (hx : x ∈ l.take k) : x.1 ∈ (l.map (·.1)).take k := by rw [← List.map_take]; exact List.mem_map.2 ⟨x, hx, rfl⟩
theorem mem_fst_drop {l : List Pr} {k : Nat} {x : Pr} (hx : x ∈ l.drop k) : x.1 ∈ (l.map (·.1)).drop k := by rw [← List.map_drop]; exact List.mem_map.2 ⟨x, hx, rfl⟩
theorem prDel_is {l : List Pr} (h : keysOK (l.map (·.1)) = true) {key : ByteArray} (hi : findIs (l.map (·.1)) key = true) : prDel l key = l.eraseIdx (findN (l.map (·.1)) key) := by
  have hat := findIs_at hi
  rw [List.getElem?_map] at hat
  obtain ⟨p, hp, hpk⟩ := Option.map_eq_some_iff.1 hat
  have hs := split_at l _ p hp
  have e1 : prDel l key = prDel (l.take (findN (l.map (·.1)) key) ++ p :: l.drop (findN (l.map (·.1)) key + 1)) key := by rw [← hs]
  rw [e1, ← eraseIdx_td]
  unfold prDel
  rw [List.filter_append, List.filter_cons, if_neg (by rw [sEq_iff.2 hpk]; simp)]
  congr 1
  · exact prDel_all _ key (fun x hx => less_ne (take_less h key _ (mem_fst_take hx)))
  · refine prDel_all _ key (fun x hx => ?_)
    have hd := drop_great h key x.1 (by rw [hi, if_pos rfl]; exact mem_fst_drop hx)
    exact (less_ne hd).symm
theorem prPut_is {l : List Pr} (h : keysOK (l.map (·.1)) = true) (key value : ByteArray) : prPut l key value = putAt l (key, value) (findN (l.map (·.1)) key) (findIs (l.map (·.1)) key) := by
  unfold prPut putAt
  have e0 : prGo key value false l = prGo key value false (l.take (findN (l.map (·.1)) key) ++ l.drop (findN (l.map (·.1)) key)) := by rw [List.take_append_drop]
  rw [e0, prGo_less _ _ _ _ (fun x hx => take_less h key _ (mem_fst_take hx))]
  congr 1
  have hg := drop_great h key
  have hm := drop_more h key
  cases hd : l.drop (findN (l.map (·.1)) key) with
  | nil =>
    have hl : l.length ≤ findN (l.map (·.1)) key := by
      have := congrArg List.length hd
      simp at this
      omega
    rw [List.drop_eq_nil_of_le (by omega)]
    unfold prGo
    simp
  | cons x r =>
    have hxm := hm x.1 (by rw [← List.map_drop, hd]; simp)
    unfold prGo
    simp only [hxm, Bool.not_false, Bool.and_self, if_true, Bool.or_true, prGo_done]
    have hr : l.drop (findN (l.map (·.1)) key + 1) = r := by rw [← List.drop_drop, hd]; rfl
    cases hi : findIs (l.map (·.1)) key
    · rw [hi] at hg
      simp only [Bool.false_eq_true, if_false, Nat.add_zero] at hg ⊢
      have hx := hg x.1 (by rw [← List.map_drop, hd]; simp)
      rw [hd, sEq_not.2 (less_ne hx).symm]
      simp only [Bool.not_false, if_true]
      rw [prDel_all r key (fun y hy => (less_ne (hg y.1 (by rw [← List.map_drop, hd]; exact List.mem_map.2 ⟨y, by simp [hy], rfl⟩))).symm)]
      rfl
    · rw [hi] at hg
      simp only [if_true] at hg ⊢
      have hat := findIs_at hi
      rw [List.getElem?_map] at hat
      obtain ⟨p, hp, hpk⟩ := Option.map_eq_some_iff.1 hat
      have hxp : x = p := by
        have : (l.drop (findN (l.map (·.1)) key))[0]? = some p := by rw [List.getElem?_drop]; exact hp
        rw [hd] at this
        simpa using this
      rw [hr, hxp, sEq_iff.2 hpk]
      simp only [Bool.not_true, Bool.false_eq_true, if_false, List.append_nil]
      rw [prDel_all r key (fun y hy => (less_ne (hg y.1 (by rw [← List.map_drop, hr]; exact List.mem_map.2 ⟨y, hy, rfl⟩))).symm)]
      rfl
/-- A step of the law: cut, set. -/
theorem map_cut {l : List Pr} (h : leafOK l) (key : ByteArray) : (findIs (l.map (·.1)) key = false ∧ nodeCut (leafOf l) key = nodeNo 7) ∨
    (findIs (l.map (·.1)) key = true ∧ nodeCut (leafOf l) key = ⟨1, (prDel l key).map (·.1), (prDel l key).map (·.2), [], 0⟩ ∧ leafOK (prDel l key)) := by
  cases hi : findIs (l.map (·.1)) key
  · left
    refine ⟨rfl, ?_⟩
    unfold nodeCut
    rw [if_neg (by rintro (h1 | h1); exact h1 rfl; rw [h.right] at h1; cases h1), if_pos (show findIs (leafOf l).keys key = false from hi)]
  · right
    rw [prDel_is h.1 hi, (map_erase l _).1, (map_erase l _).2]
    refine ⟨rfl, ?_, ?_, ?_, ?_⟩
    · unfold nodeCut
      rw [if_neg (by rintro (h1 | h1); exact h1 rfl; rw [h.right] at h1; cases h1), if_neg (by show ¬ findIs (l.map (·.1)) key = false; rw [hi]; simp)]
      rfl
    · rw [(map_erase l _).1]; exact keysOK_erase h.1 _
    · rw [(map_erase l _).2]; exact valsOK_sub h.2.1 (fun x hx => List.mem_of_mem_eraseIdx hx)
    · have := List.length_eraseIdx_le l (findN (l.map (·.1)) key)
      have := h.2.2
      omega
theorem map_set {l : List Pr} (h : leafOK l) (key value : ByteArray) :
    ((key.size < 1 ∨ 40 < key.size ∨ 40 < value.size) ∧ nodeSet (leafOf l) key value = nodeNo 2) ∨
    (1 ≤ key.size ∧ key.size ≤ 40 ∧ value.size ≤ 40 ∧ findIs (l.map (·.1)) key = false ∧ 12 ≤ l.length ∧ nodeSet (leafOf l) key value = nodeNo 3) ∨
    (1 ≤ key.size ∧ key.size ≤ 40 ∧ value.size ≤ 40 ∧ (findIs (l.map (·.1)) key = true ∨ (findIs (l.map (·.1)) key = false ∧ l.length < 12)) ∧ nodeSet (leafOf l) key value = ⟨1, (prPut l key value).map (·.1), (prPut l key value).map (·.2), [], 0⟩ ∧ leafOK (prPut l key value)) := by
  by_cases hbad : key.size < 1 ∨ 40 < key.size ∨ 40 < value.size
  · left
    refine ⟨hbad, ?_⟩
    unfold nodeSet
    rw [if_pos (by rcases hbad with h1 | h1 | h1; exact .inr (.inr (.inl h1)); exact .inr (.inr (.inr (.inl h1))); exact .inr (.inr (.inr (.inr h1))))]
  · right
    have hs : ¬ ((leafOf l).k ≠ 1 ∨ nodeRight (leafOf l).k (leafOf l).keys (leafOf l).vals (leafOf l).kids 12 13 = false ∨ key.size < 1 ∨ 40 < key.size ∨ 40 < value.size) := by
      rintro (h1 | h1 | h1)
      · exact h1 rfl
      · rw [h.right] at h1; cases h1
      · exact hbad h1
    by_cases hlim : findIs (l.map (·.1)) key = false ∧ 12 ≤ l.length
    · left
      refine ⟨by omega, by omega, by omega, hlim.1, hlim.2, ?_⟩
      unfold nodeSet
      rw [if_neg hs, if_pos ⟨hlim.1, by simpa [leafOf] using hlim.2⟩]
    · right
      rw [prPut_is h.1, (map_putAt l _ _ _).1, (map_putAt l _ _ _).2]
      refine ⟨by omega, by omega, by omega, ?_, ?_, ?_, ?_, ?_⟩
      · cases hi : findIs (l.map (·.1)) key
        · right; exact ⟨rfl, by have : ¬ 12 ≤ l.length := fun h2 => hlim ⟨hi, h2⟩; omega⟩
        · left; rfl
      · unfold nodeSet
        rw [if_neg hs, if_neg (by rintro ⟨h1, h2⟩; exact hlim ⟨h1, by simpa [leafOf] using h2⟩)]
        rfl
      · rw [(map_putAt l _ _ _).1]
        have g1 : 1 ≤ key.size := by omega
        have g2 : key.size ≤ 40 := by omega
        exact keysOK_put h.1 g1 g2
      · rw [(map_putAt l _ _ _).2]
        refine List.all_eq_true.2 fun x hx => ?_
        unfold putAt at hx
        rw [List.mem_append, List.mem_cons] at hx
        rcases hx with hx | rfl | hx
        · exact List.all_eq_true.1 h.2.1 x (List.mem_of_mem_take hx)
        · simp; omega
        · exact List.all_eq_true.1 h.2.1 x (List.mem_of_mem_drop hx)
      · have hk := findN_le (l.map (·.1)) key
        rw [List.length_map] at hk
        rw [putAt_len _ _ _ _ hk (fun hi => by have := (List.getElem?_eq_some_iff.1 (findIs_at hi)).1; simpa using this)]
        have := h.2.2
        split
        · omega
        · rename_i hi
          have : ¬ 12 ≤ l.length := fun h2 => hlim ⟨by simpa using hi, h2⟩
          omega
end Go.Proofs.Ytedmamchfgkkfaa
/- Lists of pairs (stookref20) walked: Get, Del, Put. -/
set_option linter.unusedVariables false
set_option linter.unusedSimpArgs false
namespace Go.Proofs.Ytedmamchfgkkfaa
open Go.RowKit
set_option maxRecDepth 100000
set_option maxHeartbeats 4000000

theorem Try.infoPair : (Try.prog.info? 80).map (fun i => (i.zero, i.size, i.bytes)) = some (some (.agg #[.string .empty, .string .empty]), 2, 32) := by kernel_rfl
theorem pv_one (l : List Pr) : ∀ u ∈ l.flatMap pv, u.oneCell' = true := by
  intro u hu
  obtain ⟨p, _, hp⟩ := List.mem_flatMap.1 hu
  simp [pv] at hp
  rcases hp with rfl | rfl <;> rfl
theorem pv_len (l : List Pr) : (l.flatMap pv).length = l.length * 2 := by
  induction l with
  | nil => rfl
  | cons x l ih => rw [List.flatMap_cons, List.length_append, ih, List.length_cons]; simp [pv]; omega
/-- The cells of one pair. -/
theorem Rd.pair {w : World} {A : Option Addr} {l : List Pr} (h : Rd w A (l.flatMap pv)) {j : Nat} {x : Pr} (hx : l[j]? = some x) :
    ∃ b o, A = some ⟨b, o, none⟩ ∧ w.cell? ⟨b, o + j * 2, none⟩ = some (.string x.1) ∧ w.cell? ⟨b, o + j * 2 + 1, none⟩ = some (.string x.2) := by
  have key : ∀ (l : List Pr) (j : Nat), l[j]? = some x → (l.flatMap pv)[j * 2]? = some (.string x.1) ∧ (l.flatMap pv)[j * 2 + 1]? = some (.string x.2) := by
    intro l
    induction l with
    | nil => intro j h; simp at h
    | cons y l ih =>
      intro j h
      rw [List.flatMap_cons]
      cases j with
      | zero => simp at h; subst h; simp [pv]
      | succ j =>
        have := ih j (by simpa using h)
        rw [show (j + 1) * 2 = j * 2 + 2 by omega, show j * 2 + 2 + 1 = j * 2 + 1 + 2 by omega]
        rw [List.getElem?_append_right (by simp [pv]), List.getElem?_append_right (by simp [pv])]
        simpa [pv] using this
  obtain ⟨h1, h2⟩ := key l j hx
  obtain ⟨b, o, rfl, hc⟩ := h (by intro e; rw [e] at h1; simp at h1)
  exact ⟨b, o, rfl, hc _ _ h1, by rw [Nat.add_assoc]; exact hc _ _ h2⟩
/-- A list of pairs of the call's own. -/
def RetPairs (l : List Pr) (w : World) (e : Ending) (w' : World) : Prop :=
  ∃ A c, e = .returned (.slice A l.length c) ∧ l.length ≤ c ∧ App w' w.heap.size 80 2 (.slice A l.length c) l.length (l.flatMap pv) ∧ Bl w w'
def RetPGet (l : List Pr) (key : ByteArray) (w : World) (e : Ending) (w' : World) : Prop := e = .returned (.tuple #[.string (prGet l key).1, .bool (prGet l key).2]) ∧ w' = w
theorem prGet_step {l : List Pr} {key : ByteArray} {j : Nat} {x : Pr} (hx : l[j]? = some x) (h : ∀ y ∈ l.take j, sEq y.1 key = false) (he : sEq x.1 key = true) : prGet l key = (x.2, true) := by
  unfold prGet
  have hs := split_at l j x hx
  rw [hs, List.find?_append]
  have h1 : (l.take j).find? (fun p => sEq p.1 key) = none := by
    rw [List.find?_eq_none]
    intro y hy
    rw [h y hy]; simp
  rw [h1]
  simp [he]
theorem prGet_none {l : List Pr} {key : ByteArray} (h : ∀ y ∈ l, sEq y.1 key = false) : prGet l key = (.empty, false) := by
  unfold prGet
  have h1 : l.find? (fun p => sEq p.1 key) = none := by
    rw [List.find?_eq_none]
    intro y hy
    rw [h y hy]; simp
  rw [h1]
theorem pairs_get (A : Option Addr) (c : Nat) (l : List Pr) (key : ByteArray) (w : World) (hl : l.length ≤ 1000000) (hr : Rd w A (l.flatMap pv)) :
    Calls Try.prog 55 #[.slice A l.length c, .string key] w (RetPGet l key w) := by
  have HR := Lib.hid hr
  clear hr
  go_enter Try.func55, Try.ntmps55
  go_wp2_with fail
  go_loopw [6] (fun i wr => ∃ j : Nat, j ≤ l.length ∧ i = .int .i64 j ∧ Hid (∀ y ∈ l.take j, sEq y.1 key = false) ∧ wr = w) (fun i _ => l.length - (intOf i).toNat)
  case atStart => exact ⟨0, by omega, rfl, fun y hy => by simp at hy, rfl⟩
  case round =>
    obtain ⟨j, hj, rfl, HQ, hwr⟩ := hrel
    have hwr2 := hwr.symm
    clear hwr
    subst hwr2
    by_cases hlt : j < l.length
    · obtain ⟨x, hx⟩ := get_some l j hlt
      obtain ⟨b, o, rfl, hc1, hc2⟩ := HR.out.pair hx
      have i0 : (j : Int) < (l.length : Int) := by omega
      cases he : sEq x.1 key
      · have hcmp : (x.1.toList == key.toList) = false := he
        have HN := Lib.hid (show ∀ y ∈ l.take (j + 1), sEq y.1 key = false by
          intro y hy
          rw [List.take_add_one, hx] at hy
          rcases List.mem_append.1 hy with hy | hy
          · exact HQ.out y hy
          · simp at hy; subst hy; exact he)
        clear he hx
        go_wp2_with fail
        go_roundw
        case rel => exact ⟨j + 1, by omega, by go_num, HN.out, trivial⟩
        case measure => simp [intOf]; omega
      · have hcmp : (x.1.toList == key.toList) = true := he
        have HG := Lib.hid (prGet_step hx HQ.out he)
        clear he hx
        go_wp2_with fail
        go_ret2
        refine ⟨?_, rfl⟩
        rw [HG.out]
        rfl
    · obtain rfl : j = l.length := by omega
      have HG := Lib.hid (prGet_none (l := l) (key := key) (fun y hy => HQ.out y (by rw [List.take_length]; exact hy)))
      go_wp2_with fail
      go_ret2
      refine ⟨?_, rfl⟩
      rw [HG.out]
      rfl
theorem prDel_step (l : List Pr) (key : ByteArray) (j : Nat) (x : Pr) (hx : l[j]? = some x) : prDel (l.take (j + 1)) key = prDel (l.take j) key ++ if sEq x.1 key = true then [] else [x] := by
  unfold prDel
  rw [List.take_add_one, hx, List.filter_append]
  cases h : sEq x.1 key <;> simp [h]
theorem prDel_len (l : List Pr) (key : ByteArray) : (prDel l key).length ≤ l.length := List.length_filter_le _ _
theorem pairs_del (A : Option Addr) (c : Nat) (l : List Pr) (key : ByteArray) (w : World) (hl : l.length ≤ 1000000) (hr : Rd w A (l.flatMap pv)) :
    Calls Try.prog 56 #[.slice A l.length c, .string key] w (RetPairs (prDel l key) w) := by
  have HR := Lib.hid hr
  clear hr
  go_enter Try.func56, Try.ntmps56
  go_wp2_with fail
  go_loopw [5, 6] (fun out i wr => ∃ (j : Nat) (m : List Pr), j ≤ l.length ∧ i = .int .i64 j ∧ Hid (m = prDel (l.take j) key) ∧ m.length ≤ j ∧ App wr w.heap.size 80 2 out m.length (m.flatMap pv) ∧ Hid (Bl w wr)) (fun _ i _ => l.length - (intOf i).toNat)
  case atStart => exact ⟨0, [], by omega, rfl, by simp [prDel, Hid], by simp, App.nil _ _ _ _, Bl.refl w⟩
  case round =>
    obtain ⟨j, m, hj, rfl, HQ, hm, hown, HB⟩ := hrel
    obtain ⟨v, rfl⟩ : ∃ v : World, v = wr := ⟨_, rfl⟩
    by_cases hlt : j < l.length
    · obtain ⟨x, hx⟩ := get_some l j hlt
      obtain ⟨b, o, rfl, hc1, hc2⟩ := (HR.out.bl HB.out).pair hx
      have i0 : (j : Int) < (l.length : Int) := by omega
      have HS := Lib.hid (prDel_step l key j x hx)
      cases he : sEq x.1 key
      · have hcmp : (x.1.toList == key.toList) = false := he
        have HN := Lib.hid (show m ++ [x] = prDel (l.take (j + 1)) key by rw [HS.out, he, ← HQ.out]; simp)
        have HM := Lib.hid (hown.bl ((Bl.refl v).alloc (.cells #[.string x.1, .string x.2] 80)))
        have hsz := HB.out.size
        clear he hx
        go_wp2_with (at_builtin; go_must (refine append_row rfl _ _ 72 80 (.agg #[.string .empty, .string .empty]) 2 32 rfl Try.underlying72 Try.infoPair rfl (by decide) w.heap.size HM.out (by rfl) (by rfl) (news := pv x) (by have h := rd_of_block (heap_alloc_new v (.cells #[.string x.1, .string x.2] 80)) 0 2; simpa [pv] using h) (by simp [pv]) (by intro u hu; simp [pv] at hu; rcases hu with rfl | rfl <;> rfl) (by omega) (by omega) (by simp; omega) ?_); intro v4 w4 hown4 hgr4 hat4)
        go_roundw
        case rel =>
          refine ⟨j + 1, m ++ [x], by omega, by go_num, HN.out, by simp; omega, by simpa using hown4, ?_⟩
          exact Bl.grown (HB.out.alloc _) hgr4 (fun q hq => hown.ge q hq)
        case measure => simp [intOf]; omega
      · have hcmp : (x.1.toList == key.toList) = true := he
        have HN := Lib.hid (show m = prDel (l.take (j + 1)) key by rw [HS.out, he, ← HQ.out]; simp)
        clear he hx
        go_wp2_with fail
        go_roundw
        case rel => exact ⟨j + 1, m, by omega, by go_num, HN.out, by omega, hown, HB.out⟩
        case measure => simp [intOf]; omega
    · obtain rfl : j = l.length := by omega
      have hq := HQ.out
      rw [List.take_length] at hq
      subst hq
      go_wp2_with fail
      go_ret
      obtain ⟨A1, c1, rfl, hcc⟩ := hown.slice
      exact ⟨A1, c1, rfl, hcc, hown, HB.out⟩
theorem prGo_step (key value : ByteArray) (d : Bool) (l : List Pr) (j : Nat) (x : Pr) (hx : l[j]? = some x) : prGo key value d (l.drop j) = (if (!d && !sLt x.1 key) = true then [(key, value)] else []) ++ ((if sEq x.1 key = true then [] else [x]) ++ prGo key value (d || !sLt x.1 key) (l.drop (j + 1))) := by
  have h1 : l.drop j = x :: l.drop (j + 1) := by
    have hk := (List.getElem?_eq_some_iff.1 hx)
    rw [List.drop_eq_getElem_cons hk.1, hk.2]
  rw [h1]
  conv => lhs; unfold prGo
  rw [List.append_assoc]
  cases sEq x.1 key <;> rfl
theorem pairs_put (A : Option Addr) (c : Nat) (l : List Pr) (key value : ByteArray) (w : World) (hl : l.length ≤ 1000000) (hr : Rd w A (l.flatMap pv)) :
    Calls Try.prog 57 #[.slice A l.length c, .string key, .string value] w (RetPairs (prPut l key value) w) := by
  have HR := Lib.hid hr
  clear hr
  go_enter Try.func57, Try.ntmps57
  go_wp2_with fail
  go_loopw [7, 8, 9] (fun out dn i wr => ∃ (j : Nat) (m : List Pr) (d : Bool), j ≤ l.length ∧ i = .int .i64 j ∧ dn = .bool d ∧ Hid (m ++ prGo key value d (l.drop j) = prPut l key value) ∧ m.length ≤ 2 * j ∧ App wr w.heap.size 80 2 out m.length (m.flatMap pv) ∧ Hid (Bl w wr)) (fun _ _ i _ => l.length - (intOf i).toNat)
  case atStart => exact ⟨0, [], false, by omega, rfl, rfl, rfl, by simp, App.nil _ _ _ _, Bl.refl w⟩
  case round =>
    obtain ⟨j, m, d, hj, rfl, rfl, HQ, hm, hown, HB⟩ := hrel
    obtain ⟨v, rfl⟩ : ∃ v : World, v = wr := ⟨_, rfl⟩
    have hsz := HB.out.size
    by_cases hlt : j < l.length
    · obtain ⟨x, hx⟩ := get_some l j hlt
      obtain ⟨b, o, hA, hc1, hc2⟩ := (HR.out.bl HB.out).pair hx
      subst hA
      have i0 : (j : Int) < (l.length : Int) := by omega
      have HS := Lib.hid (prGo_step key value d l j x hx)
      have HX := Lib.hid hx
      have HO := Lib.hid hown
      clear hx hown
      clear hc2
      cases d
      · cases hs : sLt x.1 key
        · have hcmp : Op.bytesLess x.1.toList key.toList = false := hs
          have HN := Lib.hid (show (if (!false && !sLt x.1 key) = true then [(key, value)] else []) = [(key, value)] ∧ true = (false || !sLt x.1 key) by rw [hs]; exact ⟨rfl, rfl⟩)
          have HM := Lib.hid (HO.out.bl ((Bl.refl v).alloc (.cells #[.string key, .string value] 80)))
          clear hs
          go_upto_region 9 with (at_builtin; go_must (refine append_row rfl _ _ 72 80 (.agg #[.string .empty, .string .empty]) 2 32 rfl Try.underlying72 Try.infoPair rfl (by decide) w.heap.size HM.out (by rfl) (by rfl) (news := pv (key, value)) (by have h := rd_of_block (heap_alloc_new v (.cells #[.string key, .string value] 80)) 0 2; simpa [pv] using h) (by simp [pv]) (by intro u hu; simp [pv] at hu; rcases hu with rfl | rfl <;> rfl) (by omega) (by omega) (by simp; omega) ?_); intro v4 w4 hown4 hgr4 hat4)
          obtain ⟨m', hm'⟩ : ∃ m', m' = m ++ [(key, value)] := ⟨_, rfl⟩
          have HO4 := Lib.hid (show App w4 w.heap.size 80 2 v4 m'.length (m'.flatMap pv) by rw [hm']; simpa using hown4)
          have HB4 := Lib.hid (Bl.grown (HB.out.alloc (.cells #[.string key, .string value] 80)) hgr4 (fun q hq => HO.out.ge q hq))
          have hml : m'.length ≤ 2 * j + 1 := by rw [hm']; simp; omega
          have HMM := Lib.hid hm'
          clear hown4 hgr4 hat4 hm' hc1
          have hlen : (m.length + 1 : Nat) = m'.length := by rw [HMM.out]; simp
          have hsz' := HB4.out.size
          obtain ⟨b', o', e, hc1', hc2'⟩ := (HR.out.bl HB4.out).pair HX.out
          cases e
          cases he : sEq x.1 key
          · have hcmp2 : (x.1.toList == key.toList) = false := he
            have HF := Lib.hid (show m' ++ [x] ++ prGo key value true (l.drop (j + 1)) = prPut l key value by
              rw [← HQ.out, HS.out, he, HN.out.1, ← HN.out.2, HMM.out]; simp)
            have HM2 := Lib.hid (HO4.out.bl ((Bl.refl w4).alloc (.cells #[.string x.1, .string x.2] 80)))
            clear he
            go_wp2_with (at_builtin; go_must (refine append_row rfl _ _ 72 80 (.agg #[.string .empty, .string .empty]) 2 32 rfl Try.underlying72 Try.infoPair rfl (by decide) w.heap.size HM2.out (by rfl) (by rfl) (news := pv x) (by have h := rd_of_block (heap_alloc_new w4 (.cells #[.string x.1, .string x.2] 80)) 0 2; simpa [pv] using h) (by simp [pv]) (by intro u hu; simp [pv] at hu; rcases hu with rfl | rfl <;> rfl) (by omega) (by omega) (by simp; omega) ?_); intro v5 w5 hown5 hgr5 hat5)
            go_roundw
            case rel => exact ⟨j + 1, m' ++ [x], true, by omega, by go_num, rfl, HF.out, by simp; omega, by simpa using hown5, Bl.grown (HB4.out.alloc _) hgr5 (fun q hq => HO4.out.ge q hq)⟩
            case measure => simp [intOf]; omega
          · have hcmp2 : (x.1.toList == key.toList) = true := he
            have HF := Lib.hid (show m' ++ prGo key value true (l.drop (j + 1)) = prPut l key value by
              rw [← HQ.out, HS.out, he, HN.out.1, ← HN.out.2, HMM.out]; simp)
            clear he
            go_wp2_with fail
            go_roundw
            case rel => exact ⟨j + 1, m', true, by omega, by go_num, rfl, HF.out, by omega, HO4.out, HB4.out⟩
            case measure => simp [intOf]; omega
        · have hcmp : Op.bytesLess x.1.toList key.toList = true := hs
          have HN := Lib.hid (show (if (!false && !sLt x.1 key) = true then [(key, value)] else []) = [] ∧ false = (false || !sLt x.1 key) by rw [hs]; simp)
          clear hs
          go_upto_region 9 with (fail)
          clear hc1
          have hsz' := HB.out.size
          obtain ⟨b', o', e, hc1', hc2'⟩ := (HR.out.bl HB.out).pair HX.out
          cases e
          cases he : sEq x.1 key
          · have hcmp2 : (x.1.toList == key.toList) = false := he
            have HF := Lib.hid (show m ++ [x] ++ prGo key value false (l.drop (j + 1)) = prPut l key value by
              rw [← HQ.out, HS.out, he, HN.out.1, ← HN.out.2]; simp)
            have HM2 := Lib.hid (HO.out.bl ((Bl.refl v).alloc (.cells #[.string x.1, .string x.2] 80)))
            clear he
            go_wp2_with (at_builtin; go_must (refine append_row rfl _ _ 72 80 (.agg #[.string .empty, .string .empty]) 2 32 rfl Try.underlying72 Try.infoPair rfl (by decide) w.heap.size HM2.out (by rfl) (by rfl) (news := pv x) (by have h := rd_of_block (heap_alloc_new v (.cells #[.string x.1, .string x.2] 80)) 0 2; simpa [pv] using h) (by simp [pv]) (by intro u hu; simp [pv] at hu; rcases hu with rfl | rfl <;> rfl) (by omega) (by omega) (by simp; omega) ?_); intro v5 w5 hown5 hgr5 hat5)
            go_roundw
            case rel => exact ⟨j + 1, m ++ [x], false, by omega, by go_num, rfl, HF.out, by simp; omega, by simpa using hown5, Bl.grown (HB.out.alloc _) hgr5 (fun q hq => HO.out.ge q hq)⟩
            case measure => simp [intOf]; omega
          · have hcmp2 : (x.1.toList == key.toList) = true := he
            have HF := Lib.hid (show m ++ prGo key value false (l.drop (j + 1)) = prPut l key value by
              rw [← HQ.out, HS.out, he, HN.out.1, ← HN.out.2]; simp)
            clear he
            go_wp2_with fail
            go_roundw
            case rel => exact ⟨j + 1, m, false, by omega, by go_num, rfl, HF.out, by omega, HO.out, HB.out⟩
            case measure => simp [intOf]; omega
      · have HN := Lib.hid (show (if (!true && !sLt x.1 key) = true then [(key, value)] else []) = [] ∧ true = (true || !sLt x.1 key) from ⟨rfl, rfl⟩)
        go_upto_region 9 with (fail)
        clear hc1
        have hsz' := HB.out.size
        obtain ⟨b', o', e, hc1', hc2'⟩ := (HR.out.bl HB.out).pair HX.out
        cases e
        cases he : sEq x.1 key
        · have hcmp2 : (x.1.toList == key.toList) = false := he
          have HF := Lib.hid (show m ++ [x] ++ prGo key value true (l.drop (j + 1)) = prPut l key value by
            rw [← HQ.out, HS.out, he, HN.out.1, ← HN.out.2]; simp)
          have HM2 := Lib.hid (HO.out.bl ((Bl.refl v).alloc (.cells #[.string x.1, .string x.2] 80)))
          clear he
          go_wp2_with (at_builtin; go_must (refine append_row rfl _ _ 72 80 (.agg #[.string .empty, .string .empty]) 2 32 rfl Try.underlying72 Try.infoPair rfl (by decide) w.heap.size HM2.out (by rfl) (by rfl) (news := pv x) (by have h := rd_of_block (heap_alloc_new v (.cells #[.string x.1, .string x.2] 80)) 0 2; simpa [pv] using h) (by simp [pv]) (by intro u hu; simp [pv] at hu; rcases hu with rfl | rfl <;> rfl) (by omega) (by omega) (by simp; omega) ?_); intro v5 w5 hown5 hgr5 hat5)
          go_roundw
          case rel => exact ⟨j + 1, m ++ [x], true, by omega, by go_num, rfl, HF.out, by simp; omega, by simpa using hown5, Bl.grown (HB.out.alloc _) hgr5 (fun q hq => HO.out.ge q hq)⟩
          case measure => simp [intOf]; omega
        · have hcmp2 : (x.1.toList == key.toList) = true := he
          have HF := Lib.hid (show m ++ prGo key value true (l.drop (j + 1)) = prPut l key value by
            rw [← HQ.out, HS.out, he, HN.out.1, ← HN.out.2]; simp)
          clear he
          go_wp2_with fail
          go_roundw
          case rel => exact ⟨j + 1, m, true, by omega, by go_num, rfl, HF.out, by omega, HO.out, HB.out⟩
          case measure => simp [intOf]; omega
    · obtain rfl : j = l.length := by omega
      have hq := HQ.out
      rw [List.drop_length] at hq
      have HO := Lib.hid hown
      cases d
      · have HM := Lib.hid (HO.out.bl ((Bl.refl v).alloc (.cells #[.string key, .string value] 80)))
        have HF := Lib.hid (show m ++ [(key, value)] = prPut l key value from hq)
        clear hq hown
        go_wp2_with (at_builtin; go_must (refine append_row rfl _ _ 72 80 (.agg #[.string .empty, .string .empty]) 2 32 rfl Try.underlying72 Try.infoPair rfl (by decide) w.heap.size HM.out (by rfl) (by rfl) (news := pv (key, value)) (by have h := rd_of_block (heap_alloc_new v (.cells #[.string key, .string value] 80)) 0 2; simpa [pv] using h) (by simp [pv]) (by intro u hu; simp [pv] at hu; rcases hu with rfl | rfl <;> rfl) (by omega) (by omega) (by simp; omega) ?_); intro v4 w4 hown4 hgr4 hat4)
        go_ret
        obtain ⟨A1, c1, rfl, hcc⟩ := hown4.slice
        rw [← HF.out]
        exact ⟨A1, c1, by simp, by simpa using hcc, by simpa using hown4, Bl.grown (HB.out.alloc _) hgr4 (fun q hq => HO.out.ge q hq)⟩
      · have HF := Lib.hid (show m = prPut l key value by rw [← hq]; unfold prGo; rw [if_pos rfl, List.append_nil])
        clear hq hown
        go_wp2_with fail
        go_ret
        obtain ⟨A1, c1, rfl, hcc⟩ := HO.out.slice
        rw [← HF.out]
        exact ⟨A1, c1, rfl, hcc, HO.out, HB.out⟩
end Go.Proofs.Ytedmamchfgkkfaa
/- Layer 18 (node) walked: Set and Cut (printed by gen_set18.py). -/
set_option linter.unusedVariables false
set_option linter.unusedSimpArgs false
namespace Go.Proofs.Ytedmamchfgkkfaa
open Go.RowKit
set_option maxRecDepth 100000
set_option maxHeartbeats 8000000

theorem mem_box2 (w : World) (o1 o2 : Obj) : Mem w [blkO (w.heap.size + 1) o2, blkO w.heap.size o1, old w] ((w.alloc o1).alloc o2) := by
  have h := ((Mem.start w).alloc o1).alloc o2
  simpa only [heap_alloc_size] using h
/-- Two new rows that lie apart. -/
theorem Mem.newRow2 {w0 w w' : World} {cs : List Chunk} (h : Mem w0 cs w) (k : Bl w w') {T : TypeId} {size n m : Nat} {v u : Value} {xs ys : List Value} (ha : App w' w.heap.size T size v n xs) (hb : App w' w.heap.size T size u m ys) (hne : v.ownBlock = none ∨ v.ownBlock ≠ u.ownBlock) :
    Mem w0 (Go.Proofs.Ytedmamchfgkkfaa.row T size v n xs :: Go.Proofs.Ytedmamchfgkkfaa.row T size u m ys :: cs) w' := by
  have h1 := h.new k (B := tog [Go.Proofs.Ytedmamchfgkkfaa.row T size v n xs, Go.Proofs.Ytedmamchfgkkfaa.row T size u m ys]) (S := fun b => v.ownBlock = some b ∨ u.ownBlock = some b) ?_ ?_
  · exact h1.open_
  · refine ⟨⟨fun b => v.ownBlock = some b, fun b => u.ownBlock = some b, fun _ h => .inl h, fun _ h => .inr h, fun b x y => ?_, ⟨fun _ => Iff.rfl, ha.mono (Nat.zero_le _)⟩, fun b => u.ownBlock = some b, fun _ => False, fun _ h => h, fun _ h => h.elim, fun _ _ h => h, ⟨fun _ => Iff.rfl, hb.mono (Nat.zero_le _)⟩, trivial⟩, fun b hb' => ?_⟩
    · rcases hne with e | e
      · rw [e] at x; cases x
      · exact e (x.trans y.symm)
    · rcases hb' with e | e
      · exact (ha.lt b e).2
      · exact (hb.lt b e).2
  · intro b hb'
    rcases hb' with e | e
    · exact ha.ge b e
    · exact hb.ge b e
theorem node_Cut (k : Int) (A B I : Option Addr) (keys vals : List ByteArray) (kids : List Int) (c d ci : Nat) (key : ByteArray) (w : World) (hk : keys.length * 16 ≤ 140737488355328) (hv : vals.length * 16 ≤ 140737488355328) (hn : kids.length * 8 ≤ 140737488355328)
    (rk : Rd w A (keys.map sv)) (rv : Rd w B (vals.map sv)) (rn : Rd w I (kids.map iv)) :
    Calls Try.prog 53 #[nodeV k A keys.length c B vals.length d I kids.length ci, .string key] w (RetRd (nodeCut ⟨k, keys, vals, kids⟩ key) w) := by
  have RK := Lib.hid rk
  have RV := Lib.hid rv
  have RN := Lib.hid rn
  clear rk rv rn
  have m0 := mem_box2 w (.cells #[.int .u8 k, .slice A keys.length c, .slice B vals.length d, .slice I kids.length ci] 52) (.cells #[.int .u8 0, .slice none 0 0, .slice none 0 0, .slice none 0 0] 52)
  have M0 := Lib.hid m0
  clear m0
  by_cases hk1 : k = 1
  case neg =>
    have HP := Lib.hid (show nodeCut ⟨k, keys, vals, kids⟩ key = nodeNo 2 by unfold nodeCut; rw [if_pos (.inl hk1)])
    have b1 : (k != 1) = true := by simpa using hk1
    clear hk1
    go_enter Try.func53, Try.ntmps53
    go_upto_region 2 with (fail)
    generalize (w.alloc (.cells #[.int .u8 k, .slice A keys.length c, .slice B vals.length d, .slice I kids.length ci] 52)).alloc (.cells #[.int .u8 0, .slice none 0 0, .slice none 0 0, .slice none 0 0] 52) = u at M0 ⊢
    generalize w.heap.size + 1 = gR at M0 ⊢
    generalize w.heap.size = g1 at M0 ⊢
    obtain ⟨z0, z1, z2, z3, zf0, zf1, zf2, zf3⟩ := Ob.all4 (M0.out.ob 0 rfl)
    go_wp2_with fail
    have m9 := M0.out.put4 0 rfl (.int .u8 0) (.slice none 0 0) (.slice none 0 0) (.slice none 0 0)
    refine bodyPost_ret (v := .tuple #[nodeV 0 none 0 0 none 0 0 none 0 0, .int .i64 2]) (results_ct rfl _ _ (m9.ob 0 rfl) rfl rfl Try.underlying52 rfl Try.sizeNode) rfl ?_
    exact RetRd.no HP.out (m9.toBlAt 2 rfl rfl rfl rfl)
  case pos =>
    subst hk1
    go_enter Try.func53, Try.ntmps53
    go_wp2_with fail
    generalize (w.alloc (.cells #[.int .u8 1, .slice A keys.length c, .slice B vals.length d, .slice I kids.length ci] 52)).alloc (.cells #[.int .u8 0, .slice none 0 0, .slice none 0 0, .slice none 0 0] 52) = u at M0 ⊢
    generalize w.heap.size + 1 = gR at M0 ⊢
    generalize w.heap.size = g1 at M0 ⊢
    have blo := M0.out.toBlAt 2 rfl rfl rfl rfl
    refine (node_Wide 1 A B I keys vals kids c d ci u (by omega) (by omega) (by omega) (RK.out.bl blo) (RV.out.bl blo) (RN.out.bl blo)).mono ?_
    rintro e w1 ⟨rfl, hbl1⟩
    have M1 := Lib.hid (M0.out.bl hbl1)
    clear hbl1 M0 blo
    obtain ⟨a0, a1, a2, a3, _⟩ := Ob.all4 (M1.out.ob 1 rfl)
    obtain ⟨z0, z1, z2, z3, zf0, zf1, zf2, zf3⟩ := Ob.all4 (M1.out.ob 0 rfl)
    by_cases hbad : nodeRight 1 keys vals kids 12 13 = false
    case pos =>
      have HP := Lib.hid (show nodeCut ⟨1, keys, vals, kids⟩ key = nodeNo 2 by unfold nodeCut; rw [if_pos (.inr hbad)])
      rw [hbad]
      clear hbad
      go_wp2_with fail
      have m9 := M1.out.put4 0 rfl (.int .u8 0) (.slice none 0 0) (.slice none 0 0) (.slice none 0 0)
      refine bodyPost_ret (v := .tuple #[nodeV 0 none 0 0 none 0 0 none 0 0, .int .i64 2]) (results_ct rfl _ _ (m9.ob 0 rfl) rfl rfl Try.underlying52 rfl Try.sizeNode) rfl ?_
      exact RetRd.no HP.out (m9.toBlAt 2 rfl rfl rfl rfl)
    case neg =>
      have hr : nodeRight 1 keys vals kids 12 13 = true := by
        cases h1 : nodeRight 1 keys vals kids 12 13
        · exact absurd (h1) hbad
        · rfl
      have HS := Lib.hid (show nodeCut ⟨1, keys, vals, kids⟩ key = if findIs keys key = false then nodeNo 7 else ⟨1, keys.eraseIdx (findN keys key), vals.eraseIdx (findN keys key), [], 0⟩ by
        unfold nodeCut
        rw [if_neg (by intro h; rcases h with h | h; exact h rfl; exact hbad h)])
      have HR := Lib.hid (show keys.length ≤ 12 ∧ vals.length = keys.length ∧ kids = [] by
        have := (nodeRight_or hr).2
        rcases this with h | h
        · exact ⟨h.2.1, h.2.2.1, h.2.2.2.1⟩
        · omega)
      rw [hr]
      clear hr hbad
      go_wp2_with fail
      have blo := M1.out.toBlAt 2 rfl rfl rfl rfl
      refine (node_Find 1 A B I keys c vals.length d kids.length ci key w1 (by omega) (RK.out.bl blo)).mono ?_
      rintro e w2 ⟨rfl, hbl2⟩
      have M2 := Lib.hid (M1.out.bl hbl2)
      clear hbl2 M1 blo
      clear a0 a1 a2 a3
      clear z0 z1 z2 z3 zf0 zf1 zf2 zf3
      obtain ⟨a0, a1, a2, a3, af0, af1, af2, af3⟩ := Ob.all4 (M2.out.ob 1 rfl)
      obtain ⟨z0, z1, z2, z3, zf0, zf1, zf2, zf3⟩ := Ob.all4 (M2.out.ob 0 rfl)
      have HFL := Lib.hid (findN_le keys key)
      have HFI := Lib.hid (show findIs keys key = true → keys[findN keys key]? = some key from findIs_at)
      generalize findN keys key = fn at HS HFL HFI ⊢
      generalize findIs keys key = fi at HS HFI ⊢
      by_cases hlim : fi = false
      case pos =>
        subst hlim
        have HP := Lib.hid (show nodeCut ⟨1, keys, vals, kids⟩ key = nodeNo 7 by rw [HS.out, if_pos rfl])
        go_wp2_with fail
        have m9 := M2.out.put4 0 rfl (.int .u8 0) (.slice none 0 0) (.slice none 0 0) (.slice none 0 0)
        refine bodyPost_ret (v := .tuple #[nodeV 0 none 0 0 none 0 0 none 0 0, .int .i64 7]) (results_ct rfl _ _ (m9.ob 0 rfl) rfl rfl Try.underlying52 rfl Try.sizeNode) rfl ?_
        exact RetRd.no HP.out (m9.toBlAt 2 rfl rfl rfl rfl)
      case neg =>
        have hfi : fi = true := by simpa using hlim
        subst hfi
        have HS2 := Lib.hid (HS.out.trans (if_neg hlim))
        have HFT := Lib.hid (HFI.out rfl)
        clear hlim HS
        go_wp2_with fail
        have blo := M2.out.toBlAt 2 rfl rfl rfl rfl
        refine (node_own 1 A B I keys vals kids c d ci w2 hk hv hn (RK.out.bl blo) (RV.out.bl blo) (RN.out.bl blo)).mono ?_
        rintro e w3 ⟨A3, B3, I3, rfl, hA3, hB3, hI3, hbl3, hap3⟩
        have M3 := Lib.hid (M2.out.newRow2 hbl3 hA3 hB3 hap3)
        clear hA3 hB3 hI3 hbl3 hap3 blo
        clear a0 a1 a2 a3 af0 af1 af2 af3
        clear z0 z1 z2 z3 zf0 zf1 zf2 zf3
        obtain ⟨a0, a1, a2, a3, af0, af1, af2, af3⟩ := Ob.all4 (M3.out.ob 3 rfl)
        have HME : Hid (Mem w [blk g1 52 #[.int .u8 1, .slice A3 keys.length keys.length, .slice B3 vals.length vals.length, .slice I3 kids.length kids.length], row 9 1 (.slice A3 keys.length keys.length) keys.length (keys.map sv), row 9 1 (.slice B3 vals.length vals.length) vals.length (vals.map sv), blk gR 52 #[.int .u8 0, .slice none 0 0, .slice none 0 0, .slice none 0 0], old w] ((((w3.setCell ⟨g1, 0, none⟩ (.int .u8 1)).setCell ⟨g1, 1, none⟩ (.slice A3 keys.length keys.length)).setCell ⟨g1, 2, none⟩ (.slice B3 vals.length vals.length)).setCell ⟨g1, 3, none⟩ (.slice I3 kids.length kids.length))) := ((M3.out.put4 3 rfl _ _ _ _).bring 3)
        go_upto_region 7 with (fail)
        generalize ((((w3.setCell ⟨g1, 0, none⟩ (.int .u8 1)).setCell ⟨g1, 1, none⟩ (.slice A3 keys.length keys.length)).setCell ⟨g1, 2, none⟩ (.slice B3 vals.length vals.length)).setCell ⟨g1, 3, none⟩ (.slice I3 kids.length kids.length)) = w4 at HME ⊢
        clear a0 a1 a2 a3 af0 af1 af2 af3
        obtain ⟨a0, a1, a2, a3, af0, af1, af2, af3⟩ := Ob.all4 (HME.out.ob 0 rfl)
        have hfn : fn < keys.length := (List.getElem?_eq_some_iff.1 HFT.out).1
        have HFN := Lib.hid (show fn < keys.length ∧ fn < vals.length from ⟨hfn, by have := HR.out; omega⟩)
        clear hfn
        obtain ⟨bK, oK, hAK, _⟩ := (HME.out.app 1 rfl).rd.1.at1 fn HFN.out.1
        subst hAK
        obtain ⟨bV, oV, hBV, _⟩ := (HME.out.app 2 rfl).rd.1.at1 fn HFN.out.2
        subst hBV
        have hd1 := delete_S 0 bK oK fn keys w4 HFN.out.1 (by have := HR.out; omega) (HME.out.app 1 rfl)
        rw [eraseIdx_td] at hd1
        have HD1 := Lib.hid hd1
        clear hd1
        have ib : (fn : Int) ≤ 12 := by have := HFN.out; have := HR.out; omega
        go_wp2_with fail
        refine HD1.out.mono ?_
        rintro e w5 ⟨rfl, hown5, hgr5⟩
        have M5 := Lib.hid (HME.out.grow 1 rfl hown5 hgr5 (.inl rfl))
        clear hown5 hgr5 HD1
        clear a0 a1 a2 a3 af0 af1 af2 af3
        obtain ⟨a0, a1, a2, a3, af0, af1, af2, af3⟩ := Ob.all4 (M5.out.ob 0 rfl)
        go_upto_region 8 with (fail)
        have M6 := Lib.hid (M5.out.put 0 rfl 1 (.slice (some ⟨bK, oK, none⟩) (keys.length - 1) keys.length))
        generalize w5.setCell ⟨g1, 1, none⟩ (.slice (some ⟨bK, oK, none⟩) (keys.length - 1) keys.length) = w6 at M6 ⊢
        clear a0 a1 a2 a3 af0 af1 af2 af3
        obtain ⟨a0, a1, a2, a3, af0, af1, af2, af3⟩ := Ob.all4 (M6.out.ob 0 rfl)
        have hd2 := delete_S 0 bV oV fn vals w6 HFN.out.2 (by have := HR.out; omega) (M6.out.app 2 rfl)
        rw [eraseIdx_td] at hd2
        have HD2 := Lib.hid hd2
        clear hd2
        go_wp2_with fail
        refine HD2.out.mono ?_
        rintro e w7 ⟨rfl, hown7, hgr7⟩
        have M7 := Lib.hid (M6.out.grow 2 rfl hown7 hgr7 (.inl rfl))
        clear hown7 hgr7 HD2
        clear a0 a1 a2 a3 af0 af1 af2 af3
        obtain ⟨a0, a1, a2, a3, af0, af1, af2, af3⟩ := Ob.all4 (M7.out.ob 0 rfl)
        go_upto_region 9 with (fail)
        have M8 := Lib.hid (M7.out.put 0 rfl 2 (.slice (some ⟨bV, oV, none⟩) (vals.length - 1) vals.length))
        generalize w7.setCell ⟨g1, 2, none⟩ (.slice (some ⟨bV, oV, none⟩) (vals.length - 1) vals.length) = w8 at M8 ⊢
        clear a0 a1 a2 a3 af0 af1 af2 af3
        obtain ⟨a0, a1, a2, a3, _⟩ := Ob.all4 (M8.out.ob 0 rfl)
        obtain ⟨z0, z1, z2, z3, zf0, zf1, zf2, zf3⟩ := Ob.all4 (M8.out.ob 3 rfl)
        go_wp2_with fail
        have m9 := M8.out.put4 3 rfl (.int .u8 1) (.slice (some ⟨bK, oK, none⟩) (keys.length - 1) keys.length) (.slice (some ⟨bV, oV, none⟩) (vals.length - 1) vals.length) (.slice I3 kids.length kids.length)
        have e4 : kids.length = 0 := by rw [HR.out.2.2]; rfl
        have e5 : (keys.eraseIdx fn).length = keys.length - 1 := by rw [List.length_eraseIdx_of_lt HFN.out.1]
        have e6 : (vals.eraseIdx fn).length = vals.length - 1 := by rw [List.length_eraseIdx_of_lt HFN.out.2]
        refine bodyPost_ret (v := .tuple #[nodeV 1 (some ⟨bK, oK, none⟩) (keys.length - 1) keys.length (some ⟨bV, oV, none⟩) (vals.length - 1) vals.length I3 kids.length kids.length, .int .i64 0]) (results_ct rfl _ _ (m9.ob 3 rfl) rfl rfl Try.underlying52 rfl Try.sizeNode) rfl ?_
        unfold RetRd
        rw [HS2.out]
        have h1 := (m9.app 1 rfl).rd.1
        have h2 := (m9.app 2 rfl).rd.1
        simp only [e5, e6]
        refine ⟨some ⟨bK, oK, none⟩, keys.length, some ⟨bV, oV, none⟩, vals.length, I3, kids.length, ?_, h1, h2, Rd.nil _ _, m9.toBlAt 4 rfl rfl rfl rfl, by omega, by omega, by simp⟩
        simp [e4]
theorem node_Set (k : Int) (A B I : Option Addr) (keys vals : List ByteArray) (kids : List Int) (c d ci : Nat) (key value : ByteArray) (w : World) (hk : keys.length * 16 ≤ 140737488355328) (hv : vals.length * 16 ≤ 140737488355328) (hn : kids.length * 8 ≤ 140737488355328)
    (rk : Rd w A (keys.map sv)) (rv : Rd w B (vals.map sv)) (rn : Rd w I (kids.map iv)) :
    Calls Try.prog 51 #[nodeV k A keys.length c B vals.length d I kids.length ci, .string key, .string value] w (RetRd (nodeSet ⟨k, keys, vals, kids⟩ key value) w) := by
  have RK := Lib.hid rk
  have RV := Lib.hid rv
  have RN := Lib.hid rn
  clear rk rv rn
  have m0 := mem_box2 w (.cells #[.int .u8 k, .slice A keys.length c, .slice B vals.length d, .slice I kids.length ci] 52) (.cells #[.int .u8 0, .slice none 0 0, .slice none 0 0, .slice none 0 0] 52)
  have M0 := Lib.hid m0
  clear m0
  by_cases hk1 : k = 1
  case neg =>
    have HP := Lib.hid (show nodeSet ⟨k, keys, vals, kids⟩ key value = nodeNo 2 by unfold nodeSet; rw [if_pos (.inl hk1)])
    have b1 : (k != 1) = true := by simpa using hk1
    clear hk1
    go_enter Try.func51, Try.ntmps51
    go_upto_region 2 with (fail)
    generalize (w.alloc (.cells #[.int .u8 k, .slice A keys.length c, .slice B vals.length d, .slice I kids.length ci] 52)).alloc (.cells #[.int .u8 0, .slice none 0 0, .slice none 0 0, .slice none 0 0] 52) = u at M0 ⊢
    generalize w.heap.size + 1 = gR at M0 ⊢
    generalize w.heap.size = g1 at M0 ⊢
    obtain ⟨z0, z1, z2, z3, zf0, zf1, zf2, zf3⟩ := Ob.all4 (M0.out.ob 0 rfl)
    go_wp2_with fail
    have m9 := M0.out.put4 0 rfl (.int .u8 0) (.slice none 0 0) (.slice none 0 0) (.slice none 0 0)
    refine bodyPost_ret (v := .tuple #[nodeV 0 none 0 0 none 0 0 none 0 0, .int .i64 2]) (results_ct rfl _ _ (m9.ob 0 rfl) rfl rfl Try.underlying52 rfl Try.sizeNode) rfl ?_
    exact RetRd.no HP.out (m9.toBlAt 2 rfl rfl rfl rfl)
  case pos =>
    subst hk1
    go_enter Try.func51, Try.ntmps51
    go_wp2_with fail
    generalize (w.alloc (.cells #[.int .u8 1, .slice A keys.length c, .slice B vals.length d, .slice I kids.length ci] 52)).alloc (.cells #[.int .u8 0, .slice none 0 0, .slice none 0 0, .slice none 0 0] 52) = u at M0 ⊢
    generalize w.heap.size + 1 = gR at M0 ⊢
    generalize w.heap.size = g1 at M0 ⊢
    have blo := M0.out.toBlAt 2 rfl rfl rfl rfl
    refine (node_Wide 1 A B I keys vals kids c d ci u (by omega) (by omega) (by omega) (RK.out.bl blo) (RV.out.bl blo) (RN.out.bl blo)).mono ?_
    rintro e w1 ⟨rfl, hbl1⟩
    have M1 := Lib.hid (M0.out.bl hbl1)
    clear hbl1 M0 blo
    obtain ⟨a0, a1, a2, a3, _⟩ := Ob.all4 (M1.out.ob 1 rfl)
    obtain ⟨z0, z1, z2, z3, zf0, zf1, zf2, zf3⟩ := Ob.all4 (M1.out.ob 0 rfl)
    by_cases hbad : nodeRight 1 keys vals kids 12 13 = false ∨ key.size < 1 ∨ 40 < key.size ∨ 40 < value.size
    case pos =>
      have HP := Lib.hid (show nodeSet ⟨1, keys, vals, kids⟩ key value = nodeNo 2 by unfold nodeSet; rw [if_pos (.inr hbad)])
      rcases (show nodeRight 1 keys vals kids 12 13 = false ∨ (nodeRight 1 keys vals kids 12 13 = true ∧ key.size < 1) ∨ (nodeRight 1 keys vals kids 12 13 = true ∧ 1 ≤ key.size ∧ 40 < key.size) ∨ (nodeRight 1 keys vals kids 12 13 = true ∧ 1 ≤ key.size ∧ key.size ≤ 40 ∧ 40 < value.size) by
        cases h1 : nodeRight 1 keys vals kids 12 13
        · exact .inl rfl
        · right
          rw [h1] at hbad
          simp only [Bool.true_eq_false, false_or] at hbad
          by_cases h2 : key.size < 1
          · exact .inl ⟨rfl, h2⟩
          · right
            by_cases h3 : 40 < key.size
            · exact .inl ⟨rfl, by omega, h3⟩
            · exact .inr ⟨rfl, by omega, by omega, by omega⟩) with h1 | ⟨h1, h2⟩ | ⟨h1, h2, h3⟩ | ⟨h1, h2, h3, h4⟩
      all_goals
        clear hbad
        rw [h1]
        go_wp2_with fail
        have m9 := M1.out.put4 0 rfl (.int .u8 0) (.slice none 0 0) (.slice none 0 0) (.slice none 0 0)
        refine bodyPost_ret (v := .tuple #[nodeV 0 none 0 0 none 0 0 none 0 0, .int .i64 2]) (results_ct rfl _ _ (m9.ob 0 rfl) rfl rfl Try.underlying52 rfl Try.sizeNode) rfl ?_
        exact RetRd.no HP.out (m9.toBlAt 2 rfl rfl rfl rfl)
    case neg =>
      have hr : nodeRight 1 keys vals kids 12 13 = true := by
        cases h1 : nodeRight 1 keys vals kids 12 13
        · exact absurd (.inl h1) hbad
        · rfl
      have s1 : 1 ≤ key.size := by omega
      have s2 : key.size ≤ 40 := by omega
      have s3 : value.size ≤ 40 := by omega
      have HS := Lib.hid (show nodeSet ⟨1, keys, vals, kids⟩ key value = if findIs keys key = false ∧ 12 ≤ keys.length then nodeNo 3 else ⟨1, putAt keys key (findN keys key) (findIs keys key), putAt vals value (findN keys key) (findIs keys key), [], 0⟩ by
        unfold nodeSet
        rw [if_neg (by intro h; rcases h with h | h; exact h rfl; exact hbad h)])
      have HR := Lib.hid (show keys.length ≤ 12 ∧ vals.length = keys.length ∧ kids = [] by
        have := (nodeRight_or hr).2
        rcases this with h | h
        · exact ⟨h.2.1, h.2.2.1, h.2.2.2.1⟩
        · omega)
      rw [hr]
      clear hr hbad
      go_wp2_with fail
      have blo := M1.out.toBlAt 2 rfl rfl rfl rfl
      refine (node_Find 1 A B I keys c vals.length d kids.length ci key w1 (by omega) (RK.out.bl blo)).mono ?_
      rintro e w2 ⟨rfl, hbl2⟩
      have M2 := Lib.hid (M1.out.bl hbl2)
      clear hbl2 M1 blo
      clear a0 a1 a2 a3
      clear z0 z1 z2 z3 zf0 zf1 zf2 zf3
      obtain ⟨a0, a1, a2, a3, af0, af1, af2, af3⟩ := Ob.all4 (M2.out.ob 1 rfl)
      obtain ⟨z0, z1, z2, z3, zf0, zf1, zf2, zf3⟩ := Ob.all4 (M2.out.ob 0 rfl)
      have HFL := Lib.hid (findN_le keys key)
      have HFI := Lib.hid (show findIs keys key = true → keys[findN keys key]? = some key from findIs_at)
      generalize findN keys key = fn at HS HFL HFI ⊢
      generalize findIs keys key = fi at HS HFI ⊢
      by_cases hlim : fi = false ∧ 12 ≤ keys.length
      case pos =>
        obtain ⟨rfl, hlen⟩ := hlim
        have HP := Lib.hid (show nodeSet ⟨1, keys, vals, kids⟩ key value = nodeNo 3 by rw [HS.out, if_pos ⟨rfl, hlen⟩])
        go_wp2_with fail
        have m9 := M2.out.put4 0 rfl (.int .u8 0) (.slice none 0 0) (.slice none 0 0) (.slice none 0 0)
        refine bodyPost_ret (v := .tuple #[nodeV 0 none 0 0 none 0 0 none 0 0, .int .i64 3]) (results_ct rfl _ _ (m9.ob 0 rfl) rfl rfl Try.underlying52 rfl Try.sizeNode) rfl ?_
        exact RetRd.no HP.out (m9.toBlAt 2 rfl rfl rfl rfl)
      case neg =>
        have HS2 := Lib.hid (HS.out.trans (if_neg hlim))
        have hfl : fi = true ∨ (fi = false ∧ (keys.length : Int) < 12) := by
          cases fi
          · right; exact ⟨rfl, by have : ¬ 12 ≤ keys.length := fun h => hlim ⟨rfl, h⟩; omega⟩
          · left; rfl
        clear hlim HS
        rcases hfl with rfl | ⟨rfl, hl12⟩
        case inl =>
          have HFT := Lib.hid (HFI.out rfl)
          go_wp2_with fail
          have blo := M2.out.toBlAt 2 rfl rfl rfl rfl
          refine (node_own 1 A B I keys vals kids c d ci w2 hk hv hn (RK.out.bl blo) (RV.out.bl blo) (RN.out.bl blo)).mono ?_
          rintro e w3 ⟨A3, B3, I3, rfl, hA3, hB3, hI3, hbl3, hap3⟩
          have M3 := Lib.hid (M2.out.newRow2 hbl3 hA3 hB3 hap3)
          clear hA3 hB3 hI3 hbl3 hap3 blo
          clear a0 a1 a2 a3 af0 af1 af2 af3
          clear z0 z1 z2 z3 zf0 zf1 zf2 zf3
          obtain ⟨a0, a1, a2, a3, af0, af1, af2, af3⟩ := Ob.all4 (M3.out.ob 3 rfl)
          have HME : Hid (Mem w [blk g1 52 #[.int .u8 1, .slice A3 keys.length keys.length, .slice B3 vals.length vals.length, .slice I3 kids.length kids.length], row 9 1 (.slice A3 keys.length keys.length) keys.length (keys.map sv), row 9 1 (.slice B3 vals.length vals.length) vals.length (vals.map sv), blk gR 52 #[.int .u8 0, .slice none 0 0, .slice none 0 0, .slice none 0 0], old w] ((((w3.setCell ⟨g1, 0, none⟩ (.int .u8 1)).setCell ⟨g1, 1, none⟩ (.slice A3 keys.length keys.length)).setCell ⟨g1, 2, none⟩ (.slice B3 vals.length vals.length)).setCell ⟨g1, 3, none⟩ (.slice I3 kids.length kids.length))) := ((M3.out.put4 3 rfl _ _ _ _).bring 3)
          go_upto_region 8 with (fail)
          generalize ((((w3.setCell ⟨g1, 0, none⟩ (.int .u8 1)).setCell ⟨g1, 1, none⟩ (.slice A3 keys.length keys.length)).setCell ⟨g1, 2, none⟩ (.slice B3 vals.length vals.length)).setCell ⟨g1, 3, none⟩ (.slice I3 kids.length kids.length)) = w4 at HME ⊢
          clear a0 a1 a2 a3 af0 af1 af2 af3
          obtain ⟨a0, a1, a2, a3, af0, af1, af2, af3⟩ := Ob.all4 (HME.out.ob 0 rfl)
          have hfn : fn < vals.length := by have := (List.getElem?_eq_some_iff.1 HFT.out).1; have := HR.out; omega
          obtain ⟨y, hy⟩ := get_some vals fn hfn
          obtain ⟨bV, oV, hBV, hcy⟩ := (HME.out.app 2 rfl).rd.1.get hy
          subst hBV
          simp only [sv] at hcy
          have hfz := (HME.out.app 2 rfl).frozen (oV + fn)
          have i0 : (fn : Int) < (vals.length : Int) := by omega
          have M5 := Lib.hid (HME.out.wrote 2 rfl ((HME.out.app 2 rfl).store fn (by omega) (sv value)).1 ((HME.out.app 2 rfl).store fn (by omega) (sv value)).2)
          clear hy
          go_upto_region 9 with (fail)
          have M5 : Hid (Mem w _ (w4.setCell ⟨bV, oV + fn, none⟩ (.string value))) := M5
          generalize w4.setCell ⟨bV, oV + fn, none⟩ (.string value) = w5 at M5 ⊢
          clear a0 a1 a2 a3 af0 af1 af2 af3
          clear hcy hfz
          obtain ⟨a0, a1, a2, a3, _⟩ := Ob.all4 (M5.out.ob 0 rfl)
          obtain ⟨z0, z1, z2, z3, zf0, zf1, zf2, zf3⟩ := Ob.all4 (M5.out.ob 3 rfl)
          go_wp2_with fail
          have m9 := M5.out.put4 3 rfl (.int .u8 1) (.slice A3 keys.length keys.length) (.slice (some ⟨bV, oV, none⟩) vals.length vals.length) (.slice I3 kids.length kids.length)
          have e1 : putAt keys key fn true = keys := putAt_same HFT.out
          have e2 : putAt vals value fn true = vals.set fn value := putAt_set _ _ _ hfn
          have e3 : (vals.set fn value).length = vals.length := by simp
          have e4 : kids.length = 0 := by rw [HR.out.2.2]; rfl
          refine bodyPost_ret (v := .tuple #[nodeV 1 A3 keys.length keys.length (some ⟨bV, oV, none⟩) vals.length vals.length I3 kids.length kids.length, .int .i64 0]) (results_ct rfl _ _ (m9.ob 3 rfl) rfl rfl Try.underlying52 rfl Try.sizeNode) rfl ?_
          unfold RetRd
          rw [HS2.out, e1, e2]
          have h1 := (m9.app 1 rfl).rd.1
          have h2 := (m9.app 2 rfl).rd.1
          rw [← List.map_set] at h2
          refine ⟨A3, keys.length, some ⟨bV, oV, none⟩, vals.length, I3, kids.length, ?_, h1, h2, Rd.nil _ _, m9.toBlAt 4 rfl rfl rfl rfl, Nat.le_refl _, by simp, by simp⟩
          simp [e4]
        case inr =>
          go_wp2_with fail
          have blo := M2.out.toBlAt 2 rfl rfl rfl rfl
          refine (node_own 1 A B I keys vals kids c d ci w2 hk hv hn (RK.out.bl blo) (RV.out.bl blo) (RN.out.bl blo)).mono ?_
          rintro e w3 ⟨A3, B3, I3, rfl, hA3, hB3, hI3, hbl3, hap3⟩
          have M3 := Lib.hid (M2.out.newRow2 hbl3 hA3 hB3 hap3)
          clear hA3 hB3 hI3 hbl3 hap3 blo
          clear a0 a1 a2 a3 af0 af1 af2 af3
          clear z0 z1 z2 z3 zf0 zf1 zf2 zf3
          obtain ⟨a0, a1, a2, a3, af0, af1, af2, af3⟩ := Ob.all4 (M3.out.ob 3 rfl)
          have HME : Hid (Mem w [blk g1 52 #[.int .u8 1, .slice A3 keys.length keys.length, .slice B3 vals.length vals.length, .slice I3 kids.length kids.length], row 9 1 (.slice A3 keys.length keys.length) keys.length (keys.map sv), row 9 1 (.slice B3 vals.length vals.length) vals.length (vals.map sv), blk gR 52 #[.int .u8 0, .slice none 0 0, .slice none 0 0, .slice none 0 0], old w] ((((w3.setCell ⟨g1, 0, none⟩ (.int .u8 1)).setCell ⟨g1, 1, none⟩ (.slice A3 keys.length keys.length)).setCell ⟨g1, 2, none⟩ (.slice B3 vals.length vals.length)).setCell ⟨g1, 3, none⟩ (.slice I3 kids.length kids.length))) := ((M3.out.put4 3 rfl _ _ _ _).bring 3)
          go_upto_region 10 with (fail)
          generalize ((((w3.setCell ⟨g1, 0, none⟩ (.int .u8 1)).setCell ⟨g1, 1, none⟩ (.slice A3 keys.length keys.length)).setCell ⟨g1, 2, none⟩ (.slice B3 vals.length vals.length)).setCell ⟨g1, 3, none⟩ (.slice I3 kids.length kids.length)) = w4 at HME ⊢
          clear a0 a1 a2 a3 af0 af1 af2 af3
          obtain ⟨a0, a1, a2, a3, af0, af1, af2, af3⟩ := Ob.all4 (HME.out.ob 0 rfl)
          have hlk : (keys.take fn ++ key :: keys.drop fn).length = keys.length + 1 := by have := HFL.out; simp; omega
          have hlv : (vals.take fn ++ value :: vals.drop fn).length = vals.length + 1 := by have := HFL.out; have := HR.out; simp; omega
          have HLK := Lib.hid hlk
          have HLV := Lib.hid hlv
          clear hlk hlv
          have hi1 := insert_S A3 fn w4.heap.size 0 1 keys key (w4.alloc (.cells #[.string key] 9)) HFL.out (by have := HR.out; omega) ((HME.out.app 1 rfl).rd.1.bl ((Bl.refl _).alloc _)) (by rw [cell_of_row _ _ 0 _ _ _ (heap_alloc_new w4 _)]; rfl)
          have HI1 := Lib.hid hi1
          clear hi1
          go_wp2_with fail
          refine HI1.out.mono ?_
          rintro e w5 ⟨A5, c5, rfl, hown5, hbl5⟩
          have M5 := Lib.hid ((HME.out.alloc (.cells #[.string key] 9)).drop.newRow hbl5 hown5)
          clear hown5 hbl5 HI1
          clear a0 a1 a2 a3 af0 af1 af2 af3
          obtain ⟨a0, a1, a2, a3, af0, af1, af2, af3⟩ := Ob.all4 (M5.out.ob 1 rfl)
          rw [HLK.out]
          go_upto_region 11 with (fail)
          have M6 := Lib.hid (M5.out.put 1 rfl 1 (.slice A5 (keys.length + 1) c5))
          generalize w5.setCell ⟨g1, 1, none⟩ (.slice A5 (keys.length + 1) c5) = w6 at M6 ⊢
          clear a0 a1 a2 a3 af0 af1 af2 af3
          obtain ⟨a0, a1, a2, a3, af0, af1, af2, af3⟩ := Ob.all4 (M6.out.ob 1 rfl)
          have hi2 := insert_S B3 fn w6.heap.size 0 1 vals value (w6.alloc (.cells #[.string value] 9)) (by have := HFL.out; have := HR.out; omega) (by have := HR.out; omega) ((M6.out.app 3 rfl).rd.1.bl ((Bl.refl _).alloc _)) (by rw [cell_of_row _ _ 0 _ _ _ (heap_alloc_new w6 _)]; rfl)
          have HI2 := Lib.hid hi2
          clear hi2
          go_wp2_with fail
          refine HI2.out.mono ?_
          rintro e w7 ⟨A7, c7, rfl, hown7, hbl7⟩
          have hcc5 : keys.length + 1 ≤ c5 := by obtain ⟨_, _, e, h⟩ := (M6.out.app 0 rfl).slice; cases e; rw [← HLK.out]; exact h
          have HCC := Lib.hid (show keys.length + 1 ≤ c5 ∧ vals.length + 1 ≤ c7 from ⟨hcc5, by obtain ⟨_, _, e, h⟩ := hown7.slice; cases e; rw [← HLV.out]; exact h⟩)
          have M7 := Lib.hid ((M6.out.alloc (.cells #[.string value] 9)).drop.newRow hbl7 hown7)
          clear hown7 hbl7 HI2 hcc5
          clear a0 a1 a2 a3 af0 af1 af2 af3
          obtain ⟨a0, a1, a2, a3, af0, af1, af2, af3⟩ := Ob.all4 (M7.out.ob 2 rfl)
          rw [HLV.out]
          go_upto_region 12 with (fail)
          have M8 := Lib.hid (M7.out.put 2 rfl 2 (.slice A7 (vals.length + 1) c7))
          generalize w7.setCell ⟨g1, 2, none⟩ (.slice A7 (vals.length + 1) c7) = w8 at M8 ⊢
          clear a0 a1 a2 a3 af0 af1 af2 af3
          obtain ⟨a0, a1, a2, a3, _⟩ := Ob.all4 (M8.out.ob 2 rfl)
          obtain ⟨z0, z1, z2, z3, zf0, zf1, zf2, zf3⟩ := Ob.all4 (M8.out.ob 5 rfl)
          go_wp2_with fail
          have m9 := M8.out.put4 5 rfl (.int .u8 1) (.slice A5 (keys.length + 1) c5) (.slice A7 (vals.length + 1) c7) (.slice I3 kids.length kids.length)
          have e4 : kids.length = 0 := by rw [HR.out.2.2]; rfl
          refine bodyPost_ret (v := .tuple #[nodeV 1 A5 (keys.length + 1) c5 A7 (vals.length + 1) c7 I3 kids.length kids.length, .int .i64 0]) (results_ct rfl _ _ (m9.ob 5 rfl) rfl rfl Try.underlying52 rfl Try.sizeNode) rfl ?_
          unfold RetRd
          rw [HS2.out, show putAt keys key fn false = keys.take fn ++ key :: keys.drop fn from rfl, show putAt vals value fn false = vals.take fn ++ value :: vals.drop fn from rfl]
          have h1 := (m9.app 1 rfl).rd.1
          have h2 := (m9.app 0 rfl).rd.1
          simp only [HLK.out, HLV.out]
          refine ⟨A5, c5, A7, c7, I3, kids.length, ?_, h1, h2, Rd.nil _ _, m9.toBlAt 6 rfl rfl rfl rfl, HCC.out.1, HCC.out.2, by simp⟩
          simp [e4]
end Go.Proofs.Ytedmamchfgkkfaa
/- Layer 18 (node) walked: Get. -/
set_option linter.unusedVariables false
set_option linter.unusedSimpArgs false
namespace Go.Proofs.Ytedmamchfgkkfaa
open Go.RowKit
set_option maxRecDepth 100000
set_option maxHeartbeats 20000000

/-- The variable in which the result stands. -/
theorem node_out (k : Int) (ks vs : List ByteArray) (is : List Int) (K V I : Value) {w0 : World} {gB gR gA gE gN base : Nat} {A : Option Addr} {n c : Nat} {w : World} {p e : Int} (h : GetSt w0 k gB gR gA gE gN base A n c w p e ks vs is K V I) :
    ∃ A1 c1 B1 d1 I1 ci1, K = .slice A1 ks.length c1 ∧ V = .slice B1 vs.length d1 ∧ I = .slice I1 is.length ci1 := by
  obtain ⟨A1, c1, h1, _⟩ := h.aK.slice
  obtain ⟨B1, d1, h2, _⟩ := h.aV.slice
  obtain ⟨I1, ci1, h3, _⟩ := h.aI.slice
  exact ⟨A1, c1, B1, d1, I1, ci1, h1, h2, h3⟩

theorem node_Get (k : Int) (A : Option Addr) (c : Nat) (b : List UInt8) (w : World) (hb : b.length ≤ 140737488351232) (hbc : b.length ≤ c) (hr : Rd w A (b.map bv)) :
    Calls Try.prog 38 #[.int .u8 k, .slice A b.length c] w (RetNode (nodeGet k b) w) := by
  have hmf : ∀ (fn : Fn) (first cap : Array Value) (w : World), (Instr.makeFunc fn first cap).run Try.prog w = .ok (.func fn first cap) w := fun _ _ _ _ => rfl
  have HR := Lib.hid hr
  clear hr
  by_cases hkind : k = 1 ∨ k = 2
  · have b0 : (k != 1) = true → (k != 2) = false := by rcases hkind with rfl | rfl <;> decide
    have HS0 := Lib.hid (node_setup k A b.length c w)
    have HKIND := Lib.hid hkind
    have b1 : ((k != 1) = false) ∨ ((k != 1) = true ∧ (k != 2) = false) := by rcases hkind with rfl | rfl <;> decide
    clear b0 hkind
    go_enter Try.func38, Try.ntmps38
    go_upto_region 1 with (fail)
    go_cut [18] (fun s wx => s = .bool false ∧ wx = (w.alloc (.cells #[.slice A b.length c] 24)).alloc (.cells #[.int .u8 0, .slice none 0 0, .slice none 0 0, .slice none 0 0] 52))
    case first =>
      rcases b1 with b1 | ⟨b1, b2⟩
      all_goals
        go_wp2_with fail
        go_meet
        case rel => exact ⟨rfl, rfl⟩
    case rest =>
      obtain ⟨rfl, rfl⟩ := hcut
      clear b1
      go_wp2_with (go_at_call 80; fail_if_success skip)
      generalize (((((w.alloc (.cells #[.slice A b.length c] 24)).alloc (.cells #[.int .u8 0, .slice none 0 0, .slice none 0 0, .slice none 0 0] 52)).alloc (.cells #[.int .i64 0] 3)).alloc (.cells #[.int .i64 0] 28)).alloc (.cells #[.int .u8 k, .slice none 0 0, .slice none 0 0, .slice none 0 0] 52)) = u at HS0 ⊢
      generalize w.heap.size + 1 + 1 + 1 + 1 + 1 = base at HS0 ⊢
      generalize w.heap.size + 1 + 1 + 1 + 1 = gN at HS0 ⊢
      generalize w.heap.size + 1 + 1 + 1 = gE at HS0 ⊢
      generalize w.heap.size + 1 + 1 = gA at HS0 ⊢
      generalize w.heap.size + 1 = gR at HS0 ⊢
      generalize w.heap.size = gB at HS0 ⊢
      refine (nd_number gE gB gA A c b 0 0 6 u hb (by unfold Hid; omega) (by omega) (HR.out.bl HS0.out.wb) HS0.out.cap).mono ?_
      rintro z w1 ⟨rfl, hcap1, hch1⟩
      have HS1 := Lib.hid (HS0.out.call hcap1 hch1)
      have F1 := ndNum_facts b 6 0 0 (by omega) (by omega)
      have HG1 := Lib.hid (nodeGet_leaf b)
      have HG2 := Lib.hid (nodeGet_inner b)
      generalize ndNum b 6 0 0 = r at HS1 F1 HG1 HG2 ⊢
      obtain ⟨n0, p0, e0⟩ := r
      obtain ⟨n, rfl⟩ : ∃ n : Nat, n0 = n := ⟨n0.toNat, by simp only at F1; omega⟩
      simp only [Int.toNat_natCast] at HS1 F1 HG1 HG2 ⊢
      clear hcap1 hch1 HS0
      go_upto_if 27 with (fail)
      go_cut [] (fun wx => Hid (∃ p e ks vs is K V I, GetSt w k gB gR gA gE gN base A b.length c wx p e ks vs is K V I ∧ (0 ≤ p ∧ p ≤ b.length) ∧ ks = [] ∧ vs = [] ∧ is.length ≤ 1 ∧ ndGoes k b n p e ks vs is = nodeGet k b))
      case first =>
        by_cases h2 : k = 2
        · subst h2
          have HPa : Hid (-9223372036854775808 ≤ p0 ∧ p0 ≤ 9223372036854775807) := by unfold Hid; omega
          have HSD := Lib.hid (HS1.out.bl (Bl.refl _).drew)
          obtain ⟨Ia, hIa⟩ : ∃ Ia : Value, Ia = .slice none 0 0 := ⟨_, rfl⟩
          have c3 : w1.cell? ⟨gN, 3, none⟩ = some (.slice none 0 0) := HS1.out.oN.cell 3 rfl
          go_wp2_with fail
          subst hIa
          go_region_law (first
            | (go_simp; go_at_call 80; refine (nd_number gE gB gA A c b p0 e0 65535 w1.drew hb HPa (by omega) (HR.out.bl HSD.out.wb) HSD.out.cap).mono ?_; rintro z w2a ⟨rfl, hcap2a, hch2a⟩; have S2a := HSD.out.call hcap2a hch2a; have da : w2a.cell? ⟨gN, 3, none⟩ = some (.slice none 0 0) := S2a.oN.cell 3 rfl; have ea : (w2a.alloc (.cells #[.int .i64 (ndNum b 65535 p0 e0).1] 3)).cell? ⟨gN, 3, none⟩ = some (.slice none 0 0) := (S2a.bl ((Bl.refl _).alloc (.cells #[.int .i64 (ndNum b 65535 p0 e0).1] 3))).oN.cell 3 rfl)
            | (refine step_row rfl _ _ 50 3 (.int .i64 0) 1 8 (by rfl) Try.underlying50 Try.infoInt rfl (by decide) base (S2a.bl ((Bl.refl _).alloc (.cells #[.int .i64 (ndNum b 65535 p0 e0).1] 3))).aI (by rfl) (by rfl) (put_one_rd w2a 3 (.int .i64 (ndNum b 65535 p0 e0).1)) (by simp) (by intro u hu; simp at hu; subst hu; rfl) (by simp) (by simp) (S2a.bl ((Bl.refl _).alloc (.cells #[.int .i64 (ndNum b 65535 p0 e0).1] 3))).ord.2.2.2.2.2 ?_; intro v3a w3a hown3a hgr3a hat3a; obtain ⟨A3a, c3a, rfl, hcc3a⟩ := hown3a.slice; have S3a := (S2a.bl ((Bl.refl _).alloc (.cells #[.int .i64 (ndNum b 65535 p0 e0).1] 3))).kids (x := (ndNum b 65535 p0 e0).1) hown3a hgr3a; have hN3a := ((S2a.bl ((Bl.refl _).alloc (.cells #[.int .i64 (ndNum b 65535 p0 e0).1] 3))).grow hgr3a (S2a.bl ((Bl.refl _).alloc (.cells #[.int .i64 (ndNum b 65535 p0 e0).1] 3))).aI.ge 3 (.int .i64 0)).2.2.1; have g3a : w3a.cell? ⟨gN, 3, none⟩ = some (.slice none 0 0) := hN3a.cell 3 rfl; have f3a := hN3a.free 3))
          all_goals
            go_wp2_with fail
            go_meet
            case rel =>
              have F2 := ndNum_facts b 65535 p0 e0 (by omega) (by omega)
              exact ⟨_, _, _, _, _, _, _, _, S3a, ⟨F2.2.2.1, F2.2.2.2⟩, rfl, rfl, by simp, HG2.out.symm⟩
        · have b2 : (k == 2) = false := by simpa using h2
          have HK1 := Lib.hid (show k = 1 by have := HKIND.out; omega)
          clear h2
          go_wp2_with fail
          go_meet
          case rel =>
            obtain rfl := HK1.out
            exact ⟨_, _, _, _, _, _, _, _, HS1.out, ⟨F1.2.2.1, F1.2.2.2⟩, rfl, rfl, by simp, HG1.out.symm⟩
      case rest =>
        obtain ⟨p1, e1, ks1, vs1, is1, K1, V1, I1, S1, hp1, rfl, rfl, hl1, hq1⟩ := hcut.out
        have HS1 := Lib.hid S1
        have HQ1 := Lib.hid hq1
        have hn6 : n ≤ 6 := by omega
        clear S1 hq1 HG1 HG2 F1
        go_wp2_with fail
        go_loopw [12] (fun i wr => ∃ (j : Nat) (p e : Int) (ks vs : List ByteArray) (is : List Int) (K V I : Value), i = .int .i64 j ∧ j ≤ n ∧ Hid (GetSt w k gB gR gA gE gN base A b.length c wr p e ks vs is K V I) ∧ (0 ≤ p ∧ p ≤ b.length) ∧ ks.length ≤ j ∧ vs.length ≤ j ∧ is.length ≤ j + 1 ∧ Hid (ndGoes k b (n - j) p e ks vs is = nodeGet k b)) (fun i _ => n - (intOf i).toNat)
        case atStart => exact ⟨0, p1, e1, [], [], is1, K1, V1, I1, rfl, by omega, HS1.out, hp1, by simp, by simp, by omega, HQ1.out⟩
        case round =>
          obtain ⟨j, p, e, ks, vs, is, K, V, I, rfl, hj, HS, hp, hks, hvs, his, HQ⟩ := hrel
          obtain ⟨v, rfl⟩ : ∃ v : World, v = wr := ⟨_, rfl⟩
          clear HS1 HQ1
          have cE : v.cell? ⟨gE, 0, none⟩ = some (.int .i64 e) := HS.out.cap.oE.cell 0 rfl
          by_cases hgo : j < n ∧ e = 0
          · obtain ⟨hlt, he⟩ := hgo
            subst he
            have HPb : Hid (-9223372036854775808 ≤ p ∧ p ≤ 9223372036854775807) := by unfold Hid; omega
            have HSD := Lib.hid (HS.out.bl (Bl.refl _).drew)
            have F2 := ndText_facts b 40 p 0 (by omega) hp
            have c1 : v.cell? ⟨gN, 1, none⟩ = some K := HS.out.oN.cell 1 rfl
            go_upto_region 13 with (fail)
            go_cut [] (fun wx => Hid (∃ K', GetSt w k gB gR gA gE gN base A b.length c wx (ndText b 40 p 0).2.1 (ndText b 40 p 0).2.2 (ks ++ [⟨(ndText b 40 p 0).1.toArray⟩]) vs is K' V I))
            case first =>
              go_region_law (first
                | (go_simp; go_at_call 82; refine (nd_text gE gB gA A c b p 0 40 v.drew hb hbc HPb (by omega) (HR.out.bl HSD.out.wb) HSD.out.cap).mono ?_; rintro z w2b ⟨rfl, hcap2b, hch2b⟩; have S2b := HSD.out.call hcap2b hch2b; have db : w2b.cell? ⟨gN, 1, none⟩ = some K := S2b.oN.cell 1 rfl; have eb : (w2b.alloc (.cells #[.string (⟨(ndText b 40 p 0).1.toArray⟩ : ByteArray)] 9)).cell? ⟨gN, 1, none⟩ = some K := (S2b.bl ((Bl.refl _).alloc (.cells #[.string (⟨(ndText b 40 p 0).1.toArray⟩ : ByteArray)] 9))).oN.cell 1 rfl)
                | (refine step_row rfl _ _ 49 9 (.string .empty) 1 16 (by rfl) Try.underlying49 Try.infoStr rfl (by decide) base (S2b.bl ((Bl.refl _).alloc (.cells #[.string (⟨(ndText b 40 p 0).1.toArray⟩ : ByteArray)] 9))).aK (by rfl) (by rfl) (put_one_rd w2b 9 (.string (⟨(ndText b 40 p 0).1.toArray⟩ : ByteArray))) (by simp) (by intro u hu; simp at hu; subst hu; rfl) (by omega) (by omega) (S2b.bl ((Bl.refl _).alloc (.cells #[.string (⟨(ndText b 40 p 0).1.toArray⟩ : ByteArray)] 9))).ord.2.2.2.2.2 ?_; intro v3b w3b hown3b hgr3b hat3b; obtain ⟨A3b, c3b, rfl, hcc3b⟩ := hown3b.slice; have S3b := (S2b.bl ((Bl.refl _).alloc (.cells #[.string (⟨(ndText b 40 p 0).1.toArray⟩ : ByteArray)] 9))).keys (x := (⟨(ndText b 40 p 0).1.toArray⟩ : ByteArray)) hown3b hgr3b hat3b; have hN3b := ((S2b.bl ((Bl.refl _).alloc (.cells #[.string (⟨(ndText b 40 p 0).1.toArray⟩ : ByteArray)] 9))).grow hgr3b (S2b.bl ((Bl.refl _).alloc (.cells #[.string (⟨(ndText b 40 p 0).1.toArray⟩ : ByteArray)] 9))).aK.ge 1 (.int .i64 0)).2.2.1; have g3b : w3b.cell? ⟨gN, 1, none⟩ = some K := hN3b.cell 1 rfl; have f3b := hN3b.free 1))
              all_goals
                go_wp2_with fail
                go_meet
                case rel => exact ⟨_, S3b⟩
            case rest =>
              obtain ⟨K', S4⟩ := hcut.out
              have HS4 := Lib.hid S4
              have HSE := Lib.hid (S4.bl (Bl.refl _).drew)
              have HPc : Hid (-9223372036854775808 ≤ (ndText b 40 p 0).2.1 ∧ (ndText b 40 p 0).2.1 ≤ 9223372036854775807) := by unfold Hid; omega
              have HPd := HPc
              have c2 : wc.cell? ⟨gN, 2, none⟩ = some V := S4.oN.cell 2 rfl
              have c3 : wc.cell? ⟨gN, 3, none⟩ = some I := S4.oN.cell 3 rfl
              clear S4 c1 cE HSD
              by_cases h2 : k = 2
              · subst h2
                have HN := Lib.hid (ndGoes_kids b (n - (j + 1)) p ks vs is)
                have F3 := ndNum_facts b 65535 (ndText b 40 p 0).2.1 (ndText b 40 p 0).2.2 (by omega) (by omega)
                go_wp2_with fail
                go_region_law (first
                  | (go_simp; go_at_call 80; refine (nd_number gE gB gA A c b (ndText b 40 p 0).2.1 (ndText b 40 p 0).2.2 65535 wc.drew hb HPc (by omega) (HR.out.bl HSE.out.wb) HSE.out.cap).mono ?_; rintro z w2c ⟨rfl, hcap2c, hch2c⟩; have S2c := HSE.out.call hcap2c hch2c; have dc : w2c.cell? ⟨gN, 3, none⟩ = some I := S2c.oN.cell 3 rfl; have ec : (w2c.alloc (.cells #[.int .i64 (ndNum b 65535 (ndText b 40 p 0).2.1 (ndText b 40 p 0).2.2).1] 3)).cell? ⟨gN, 3, none⟩ = some I := (S2c.bl ((Bl.refl _).alloc (.cells #[.int .i64 (ndNum b 65535 (ndText b 40 p 0).2.1 (ndText b 40 p 0).2.2).1] 3))).oN.cell 3 rfl)
                  | (refine step_row rfl _ _ 50 3 (.int .i64 0) 1 8 (by rfl) Try.underlying50 Try.infoInt rfl (by decide) base (S2c.bl ((Bl.refl _).alloc (.cells #[.int .i64 (ndNum b 65535 (ndText b 40 p 0).2.1 (ndText b 40 p 0).2.2).1] 3))).aI (by rfl) (by rfl) (put_one_rd w2c 3 (.int .i64 (ndNum b 65535 (ndText b 40 p 0).2.1 (ndText b 40 p 0).2.2).1)) (by simp) (by intro u hu; simp at hu; subst hu; rfl) (by omega) (by omega) (S2c.bl ((Bl.refl _).alloc (.cells #[.int .i64 (ndNum b 65535 (ndText b 40 p 0).2.1 (ndText b 40 p 0).2.2).1] 3))).ord.2.2.2.2.2 ?_; intro v3c w3c hown3c hgr3c hat3c; obtain ⟨A3c, c3c, rfl, hcc3c⟩ := hown3c.slice; have S3c := (S2c.bl ((Bl.refl _).alloc (.cells #[.int .i64 (ndNum b 65535 (ndText b 40 p 0).2.1 (ndText b 40 p 0).2.2).1] 3))).kids (x := (ndNum b 65535 (ndText b 40 p 0).2.1 (ndText b 40 p 0).2.2).1) hown3c hgr3c; have hN3c := ((S2c.bl ((Bl.refl _).alloc (.cells #[.int .i64 (ndNum b 65535 (ndText b 40 p 0).2.1 (ndText b 40 p 0).2.2).1] 3))).grow hgr3c (S2c.bl ((Bl.refl _).alloc (.cells #[.int .i64 (ndNum b 65535 (ndText b 40 p 0).2.1 (ndText b 40 p 0).2.2).1] 3))).aI.ge 3 (.int .i64 0)).2.2.1; have g3c : w3c.cell? ⟨gN, 3, none⟩ = some I := hN3c.cell 3 rfl; have f3c := hN3c.free 3))
                all_goals
                  go_wp2_with fail
                  go_roundw
                  case rel =>
                    refine ⟨j + 1, _, _, _, _, _, _, _, _, by go_num, by omega, S3c, ⟨F3.2.2.1, F3.2.2.2⟩, by simp; omega, by omega, by simp; omega, ?_⟩
                    show _ = _
                    rw [← HN.out, show n - (j + 1) + 1 = n - j by omega]; exact HQ.out
                  case measure => simp [intOf]; omega
              · have b2 : (k == 2) = false := by simpa using h2
                have HN := Lib.hid (ndGoes_vals k h2 b (n - (j + 1)) p ks vs is)
                have F3 := ndText_facts b 40 (ndText b 40 p 0).2.1 (ndText b 40 p 0).2.2 (by omega) (by omega)
                clear h2
                go_wp2_with fail
                go_region_law (first
                  | (go_simp; go_at_call 82; refine (nd_text gE gB gA A c b (ndText b 40 p 0).2.1 (ndText b 40 p 0).2.2 40 wc.drew hb hbc HPd (by omega) (HR.out.bl HSE.out.wb) HSE.out.cap).mono ?_; rintro z w2d ⟨rfl, hcap2d, hch2d⟩; have S2d := HSE.out.call hcap2d hch2d; have dd : w2d.cell? ⟨gN, 2, none⟩ = some V := S2d.oN.cell 2 rfl; have ed : (w2d.alloc (.cells #[.string (⟨(ndText b 40 (ndText b 40 p 0).2.1 (ndText b 40 p 0).2.2).1.toArray⟩ : ByteArray)] 9)).cell? ⟨gN, 2, none⟩ = some V := (S2d.bl ((Bl.refl _).alloc (.cells #[.string (⟨(ndText b 40 (ndText b 40 p 0).2.1 (ndText b 40 p 0).2.2).1.toArray⟩ : ByteArray)] 9))).oN.cell 2 rfl)
                  | (refine step_row rfl _ _ 49 9 (.string .empty) 1 16 (by rfl) Try.underlying49 Try.infoStr rfl (by decide) base (S2d.bl ((Bl.refl _).alloc (.cells #[.string (⟨(ndText b 40 (ndText b 40 p 0).2.1 (ndText b 40 p 0).2.2).1.toArray⟩ : ByteArray)] 9))).aV (by rfl) (by rfl) (put_one_rd w2d 9 (.string (⟨(ndText b 40 (ndText b 40 p 0).2.1 (ndText b 40 p 0).2.2).1.toArray⟩ : ByteArray))) (by simp) (by intro u hu; simp at hu; subst hu; rfl) (by omega) (by omega) (S2d.bl ((Bl.refl _).alloc (.cells #[.string (⟨(ndText b 40 (ndText b 40 p 0).2.1 (ndText b 40 p 0).2.2).1.toArray⟩ : ByteArray)] 9))).ord.2.2.2.2.2 ?_; intro v3d w3d hown3d hgr3d hat3d; obtain ⟨A3d, c3d, rfl, hcc3d⟩ := hown3d.slice; have S3d := (S2d.bl ((Bl.refl _).alloc (.cells #[.string (⟨(ndText b 40 (ndText b 40 p 0).2.1 (ndText b 40 p 0).2.2).1.toArray⟩ : ByteArray)] 9))).vals (x := (⟨(ndText b 40 (ndText b 40 p 0).2.1 (ndText b 40 p 0).2.2).1.toArray⟩ : ByteArray)) hown3d hgr3d hat3d; have hN3d := ((S2d.bl ((Bl.refl _).alloc (.cells #[.string (⟨(ndText b 40 (ndText b 40 p 0).2.1 (ndText b 40 p 0).2.2).1.toArray⟩ : ByteArray)] 9))).grow hgr3d (S2d.bl ((Bl.refl _).alloc (.cells #[.string (⟨(ndText b 40 (ndText b 40 p 0).2.1 (ndText b 40 p 0).2.2).1.toArray⟩ : ByteArray)] 9))).aV.ge 2 (.int .i64 0)).2.2.1; have g3d : w3d.cell? ⟨gN, 2, none⟩ = some V := hN3d.cell 2 rfl; have f3d := hN3d.free 2))
                all_goals
                  go_wp2_with fail
                  go_roundw
                  case rel =>
                    refine ⟨j + 1, _, _, _, _, _, _, _, _, by go_num, by omega, S3d, ⟨F3.2.1, F3.2.2⟩, by simp; omega, by simp; omega, by omega, ?_⟩
                    show _ = _
                    rw [← HN.out, show n - (j + 1) + 1 = n - j by omega]; exact HQ.out
                  case measure => simp [intOf]; omega
          · have d0 := HS.out.oR.cell 0 rfl
            have d1 := HS.out.oR.cell 1 rfl
            have d2 := HS.out.oR.cell 2 rfl
            have d3 := HS.out.oR.cell 3 rfl
            have f0 := HS.out.oR.free 0
            have f1 := HS.out.oR.free 1
            have f2 := HS.out.oR.free 2
            have f3 := HS.out.oR.free 3
            simp only [List.getElem_toArray, List.getElem_cons_zero, List.getElem_cons_succ] at d0 d1 d2 d3
            have HOR := HS.out.ord
            by_cases he : e = 0
            · subst he
              obtain rfl : j = n := by omega
              have HE := Lib.hid (show nodeEnd k b p ks vs is = nodeGet k b by rw [← HQ.out, Nat.sub_self]; unfold ndGoes; rw [if_neg (by simp)]; rfl)
              have cA : v.cell? ⟨gA, 0, none⟩ = some (.int .i64 p) := HS.out.cap.oA.cell 0 rfl
              have cB : v.cell? ⟨gB, 0, none⟩ = some (.slice A b.length c) := HS.out.cap.oB.cell 0 rfl
              clear HQ hgo
              by_cases hpl : p = b.length
              · have b2 : (p != (b.length : Int)) = false := by simpa using hpl
                obtain ⟨A1, c1, B1, e1', I1, ci1, rfl, rfl, rfl⟩ := node_out k ks vs is K V I HS.out
                obtain ⟨m0, m1, m2, m3, _⟩ := Ob.all4 HS.out.oN
                have hm := node_May k A1 B1 I1 ks vs is c1 e1' ci1 v (by omega) (by omega) (by omega) HS.out.aK.rd.1 HS.out.aV.rd.1 HS.out.aI.rd.1
                cases hr : nodeRight k ks vs is 6 6
                · have HP := Lib.hid (show nodeGet k b = nodeNo 5 by rw [← HE.out]; unfold nodeEnd; rw [if_pos (.inr hr)])
                  rw [hr] at hm
                  have HM := Lib.hid hm
                  clear hm hr hpl
                  go_wp2_with (first
                    | (go_at_call 36; go_must (refine HM.out.mono ?_); rintro z w4 ⟨rfl, hbl4⟩; have HS4 := Lib.hid (HS.out.bl hbl4); obtain ⟨q0, q1, q2, q3, g0, g1, g2, g3⟩ := Ob.all4 HS4.out.oR))
                  refine bodyPost_ret (v := .tuple #[nodeV 0 none 0 0 none 0 0 none 0 0, .int .i64 5]) (results_ct rfl _ _ (HS4.out.oR.set4 _ _ _ _).1 rfl rfl Try.underlying52 rfl Try.sizeNode) rfl ?_
                  exact RetNode.no HP.out ((HS4.out.wb.ch [gR]).same (HS4.out.oR.set4 _ _ _ _).2 |>.bl (by have := HS.out.w0b; simp; omega))
                · have HP := Lib.hid (show nodeGet k b = ⟨k, ks, vs, is, 0⟩ by rw [← HE.out]; unfold nodeEnd; rw [if_neg (by rw [hr]; simp; omega)])
                  rw [hr] at hm
                  have HM := Lib.hid hm
                  clear hm hr hpl
                  go_wp2_with (first
                    | (go_at_call 36; go_must (refine HM.out.mono ?_); rintro z w4 ⟨rfl, hbl4⟩; have HS4 := Lib.hid (HS.out.bl hbl4); obtain ⟨q0, q1, q2, q3, g0, g1, g2, g3⟩ := Ob.all4 HS4.out.oR; clear m0 m1 m2 m3; obtain ⟨m0, m1, m2, m3, _⟩ := Ob.all4 HS4.out.oN))
                  refine bodyPost_ret (v := .tuple #[nodeV k A1 ks.length c1 B1 vs.length e1' I1 is.length ci1, .int .i64 0]) (results_ct rfl _ _ (HS4.out.oR.set4 _ _ _ _).1 rfl rfl Try.underlying52 rfl Try.sizeNode) rfl ?_
                  unfold RetNode
                  rw [HP.out]
                  have hch := (HS4.out.oR.set4 (.int .u8 k) (.slice A1 ks.length c1) (.slice B1 vs.length e1') (.slice I1 is.length ci1)).2
                  have hw0 := HS.out.w0b
                  have key : ∀ {T : TypeId} {v : Value} {m : Nat} {cs : List Value}, App w4 base T 1 v m cs → App _ w.heap.size T 1 v m cs := fun a => (a.ch hch (fun g hg e => by have := a.ge g e; simp at hg; omega)).mono (by omega)
                  exact ⟨A1, c1, B1, e1', I1, ci1, rfl, key HS4.out.aK, key HS4.out.aV, key HS4.out.aI, (HS4.out.wb.ch [gR]).same hch |>.bl (by simp; omega)⟩
              · have b2 : (p != (b.length : Int)) = true := by simpa using hpl
                have HP := Lib.hid (show nodeGet k b = nodeNo 5 by rw [← HE.out]; unfold nodeEnd; rw [if_pos (.inl hpl)])
                clear hpl
                go_wp2_with fail
                refine bodyPost_ret (v := .tuple #[nodeV 0 none 0 0 none 0 0 none 0 0, .int .i64 5]) (results_ct rfl _ _ (HS.out.oR.set4 _ _ _ _).1 rfl rfl Try.underlying52 rfl Try.sizeNode) rfl ?_
                exact RetNode.no HP.out ((HS.out.wb.ch [gR]).same (HS.out.oR.set4 _ _ _ _).2 |>.bl (by have := HS.out.w0b; simp; omega))
            · have HP := Lib.hid (show nodeGet k b = nodeNo e by rw [← HQ.out]; unfold ndGoes; rw [if_pos he])
              have b2 : (e != 0) = true := by simpa using he
              have b3 : (e == 0) = false := by simpa using he
              clear he hgo HQ
              by_cases hlt : j < n
              all_goals
                go_wp2_with fail
                go_region
                go_wp2_with fail
                refine bodyPost_ret (v := .tuple #[nodeV 0 none 0 0 none 0 0 none 0 0, .int .i64 e]) (results_ct rfl _ _ (Ob.bl (HS.out.oR.set4 _ _ _ _).1 (Bl.refl _).drew) rfl rfl Try.underlying52 rfl Try.sizeNode) rfl ?_
                exact RetNode.no HP.out (Bl.drew ((HS.out.wb.ch [gR]).same (HS.out.oR.set4 _ _ _ _).2 |>.bl (by have := HS.out.w0b; simp; omega)))
  · have HP := Lib.hid (show nodeGet k b = nodeNo 2 by unfold nodeGet; rw [if_pos (by omega)])
    have b1 : (k != 1) = true := by simp; omega
    have b2 : (k != 2) = true := by simp; omega
    clear hkind
    go_enter Try.func38, Try.ntmps38
    go_wp2_with fail
    have hob : Ob ((w.alloc (.cells #[.slice A b.length c] 24)).alloc (.cells #[.int .u8 0, .slice none 0 0, .slice none 0 0, .slice none 0 0] 52)) (w.heap.size + 1) 52 #[.int .u8 0, .slice none 0 0, .slice none 0 0, .slice none 0 0] := by
      have := Ob.new (w.alloc (.cells #[.slice A b.length c] 24)) #[.int .u8 0, .slice none 0 0, .slice none 0 0, .slice none 0 0] 52
      simpa using this
    refine bodyPost_ret (v := .tuple #[nodeV 0 none 0 0 none 0 0 none 0 0, .int .i64 2]) (results_ct rfl _ _ hob rfl rfl Try.underlying52 rfl Try.sizeNode) rfl ?_
    exact RetNode.no HP.out (((Bl.refl w).alloc _).alloc _)
end Go.Proofs.Ytedmamchfgkkfaa
/- The reference of layer 18 (node): Get's state. -/
set_option linter.unusedVariables false
set_option linter.unusedSimpArgs false
namespace Go.Proofs.Ytedmamchfgkkfaa
open Go.RowKit
set_option maxRecDepth 100000
set_option maxHeartbeats 4000000

/-- The state of the reference's Get: the result's variable, the node's variable. -/
structure RefSt (w0 : World) (k : Int) (gR gN base : Nat) (w : World) (ks vs : List ByteArray) (is : List Int) (K V I : Value) : Prop where
  oR : Ob w gR 52 #[.int .u8 0, .slice none 0 0, .slice none 0 0, .slice none 0 0]
  oN : Ob w gN 52 #[.int .u8 k, K, V, I]
  aK : App w base 9 1 K ks.length (ks.map sv)
  aV : App w base 9 1 V vs.length (vs.map sv)
  aI : App w base 3 1 I is.length (is.map iv)
  ord : gR < gN ∧ gN < base ∧ base ≤ w.heap.size
  wb : Bl w0 w
  w0b : w0.heap.size ≤ gR
  ap : K.ownBlock = none ∨ K.ownBlock ≠ V.ownBlock
theorem ref_setup (k : Int) (w : World) : RefSt w k w.heap.size (w.heap.size + 1) (w.heap.size + 1 + 1)
      ((w.alloc (.cells #[.int .u8 0, .slice none 0 0, .slice none 0 0, .slice none 0 0] 52)).alloc (.cells #[.int .u8 k, .slice none 0 0, .slice none 0 0, .slice none 0 0] 52))
      [] [] [] (.slice none 0 0) (.slice none 0 0) (.slice none 0 0) := by
  have o1 := Ob.new w #[.int .u8 0, .slice none 0 0, .slice none 0 0, .slice none 0 0] 52
  have o2 := Ob.new (w.alloc (.cells #[.int .u8 0, .slice none 0 0, .slice none 0 0, .slice none 0 0] 52)) #[.int .u8 k, .slice none 0 0, .slice none 0 0, .slice none 0 0] 52
  exact ⟨o1.bl ((Bl.refl _).alloc _), by simpa using o2, App.nil _ _ _ _, App.nil _ _ _ _, App.nil _ _ _ _, ⟨by omega, by omega, by simp⟩, ((Bl.refl w).alloc _).alloc _, Nat.le_refl _, .inl rfl⟩
theorem RefSt.bl {w0 : World} {k : Int} {gR gN base : Nat} {w w' : World} {ks vs : List ByteArray} {is : List Int} {K V I : Value} (h : RefSt w0 k gR gN base w ks vs is K V I) (hb : Bl w w') : RefSt w0 k gR gN base w' ks vs is K V I :=
  ⟨h.oR.bl hb, h.oN.bl hb, h.aK.bl hb, h.aV.bl hb, h.aI.bl hb, ⟨h.ord.1, h.ord.2.1, Nat.le_trans h.ord.2.2 hb.size⟩, h.wb.trans hb, h.w0b, h.ap⟩
/-- What an append to one of the three leaves, and the store of it. -/
theorem RefSt.grow {w0 : World} {k : Int} {gR gN base : Nat} {w w' : World} {ks vs : List ByteArray} {is : List Int} {K V I X : Value} (h : RefSt w0 k gR gN base w ks vs is K V I) (hg : w.grownBy w' X.ownBlock) (hX : ∀ g, X.ownBlock = some g → base ≤ g) (i : Nat) (u : Value) :
    Ob (w'.setCell ⟨gN, i, none⟩ u) gR 52 #[.int .u8 0, .slice none 0 0, .slice none 0 0, .slice none 0 0] ∧ Ob w' gN 52 #[.int .u8 k, K, V, I] ∧ (gR < gN ∧ gN < base ∧ base ≤ (w'.setCell ⟨gN, i, none⟩ u).heap.size) ∧ Bl w0 (w'.setCell ⟨gN, i, none⟩ u) ∧
    (∀ {T : TypeId} {v : Value} {m : Nat} {cs : List Value}, App w base T 1 v m cs → (v.ownBlock = none ∨ v.ownBlock ≠ X.ownBlock) → App (w'.setCell ⟨gN, i, none⟩ u) base T 1 v m cs) := by
  obtain ⟨h4, h5, h6⟩ := h.ord
  have hch := Ch.grown hg
  have nin : ∀ g, g < base → g ∉ X.ownBlock.toList := fun g hlt hm => by
    simp at hm
    have := hX g hm
    omega
  have hp := Ch.put w' gN i u
  refine ⟨(h.oR.ch hch (nin _ (by omega))).ch hp (by simp; omega), h.oN.ch hch (nin _ (by omega)), ⟨h4, h5, Nat.le_trans h6 (Nat.le_trans hch.size hp.size)⟩, (h.wb.grown hg (fun q hq => by have := hX q hq; have := h.w0b; omega)).setCell (by have := h.w0b; show w0.heap.size ≤ gN; omega) u, ?_⟩
  intro T v m cs ha hne
  exact (ha.kept hg hne).ch hp (fun g hm e => by have := ha.ge g e; simp at hm; omega)
theorem RefSt.keys {w0 : World} {k : Int} {gR gN base : Nat} {w w' : World} {ks vs : List ByteArray} {is : List Int} {K V I K' : Value} {x : ByteArray} (h : RefSt w0 k gR gN base w ks vs is K V I)
    (ha : App w' base 9 1 K' (ks.length + 1) (ks.map sv ++ [sv x])) (hg : w.grownBy w' K.ownBlock) (hat : K'.ownBlock = K.ownBlock ∨ ∃ b, K'.ownBlock = some b ∧ w.heap.size ≤ b) : RefSt w0 k gR gN base (w'.setCell ⟨gN, 1, none⟩ K') (ks ++ [x]) vs is K' V I := by
  obtain ⟨r2, r3, r4, rb, r5⟩ := h.grow hg h.aK.ge 1 K'
  refine ⟨r2, by have := r3.set 1 K'; simpa using this, ?_, r5 h.aV (ne_swap h.ap), r5 h.aI (ne_swap (app_ne h.aK h.aI (by decide))), r4, rb, h.w0b, ?_⟩
  · have := ha.ch (Ch.put w' gN 1 K') (fun g hm e => by have := ha.ge g e; have := r4; simp at hm; omega)
    simpa using this
  · rcases hat with e1 | ⟨bb, e1, hbb⟩
    · rw [e1]; exact h.ap
    · right; rw [e1]; intro e2; have := (h.aV.lt _ e2.symm).2; omega
theorem RefSt.vals {w0 : World} {k : Int} {gR gN base : Nat} {w w' : World} {ks vs : List ByteArray} {is : List Int} {K V I V' : Value} {x : ByteArray} (h : RefSt w0 k gR gN base w ks vs is K V I)
    (ha : App w' base 9 1 V' (vs.length + 1) (vs.map sv ++ [sv x])) (hg : w.grownBy w' V.ownBlock) (hat : V'.ownBlock = V.ownBlock ∨ ∃ b, V'.ownBlock = some b ∧ w.heap.size ≤ b) : RefSt w0 k gR gN base (w'.setCell ⟨gN, 2, none⟩ V') ks (vs ++ [x]) is K V' I := by
  obtain ⟨r2, r3, r4, rb, r5⟩ := h.grow hg h.aV.ge 2 V'
  refine ⟨r2, by have := r3.set 2 V'; simpa using this, r5 h.aK h.ap, ?_, r5 h.aI (ne_swap (app_ne h.aV h.aI (by decide))), r4, rb, h.w0b, ?_⟩
  · have := ha.ch (Ch.put w' gN 2 V') (fun g hm e => by have := ha.ge g e; have := r4; simp at hm; omega)
    simpa using this
  · rcases hat with e1 | ⟨bb, e1, hbb⟩
    · rw [e1]; exact h.ap
    · rcases hk : K.ownBlock with _ | g
      · exact .inl rfl
      · right; rw [e1]; intro e2; simp at e2; have := (h.aK.lt g hk).2; omega
theorem RefSt.kids {w0 : World} {k : Int} {gR gN base : Nat} {w w' : World} {ks vs : List ByteArray} {is : List Int} {K V I I' : Value} {x : Int} (h : RefSt w0 k gR gN base w ks vs is K V I)
    (ha : App w' base 3 1 I' (is.length + 1) (is.map iv ++ [iv x])) (hg : w.grownBy w' I.ownBlock) : RefSt w0 k gR gN base (w'.setCell ⟨gN, 3, none⟩ I') ks vs (is ++ [x]) K V I' := by
  obtain ⟨r2, r3, r4, rb, r5⟩ := h.grow hg h.aI.ge 3 I'
  refine ⟨r2, by have := r3.set 3 I'; simpa using this, r5 h.aK (app_ne h.aK h.aI (by decide)), r5 h.aV (app_ne h.aV h.aI (by decide)), ?_, r4, rb, h.w0b, h.ap⟩
  have := ha.ch (Ch.put w' gN 3 I') (fun g hm e => by have := ha.ge g e; have := r4; simp at hm; omega)
  simpa using this
end Go.Proofs.Ytedmamchfgkkfaa
/- The reference of layer 18 (node) walked: Get. -/
set_option linter.unusedVariables false
set_option linter.unusedSimpArgs false
namespace Go.Proofs.Ytedmamchfgkkfaa
open Go.RowKit
set_option maxRecDepth 100000
set_option maxHeartbeats 20000000

theorem ref_out {w0 : World} {k : Int} {ks vs : List ByteArray} {is : List Int} {K V I : Value} {gR gN base : Nat} {w : World} (h : RefSt w0 k gR gN base w ks vs is K V I) :
    ∃ A1 c1 B1 d1 I1 ci1, K = .slice A1 ks.length c1 ∧ V = .slice B1 vs.length d1 ∧ I = .slice I1 is.length ci1 := by
  obtain ⟨A1, c1, h1, _⟩ := h.aK.slice
  obtain ⟨B1, d1, h2, _⟩ := h.aV.slice
  obtain ⟨I1, ci1, h3, _⟩ := h.aI.slice
  exact ⟨A1, c1, B1, d1, I1, ci1, h1, h2, h3⟩
theorem ref_nodeGet (k : Int) (A : Option Addr) (c : Nat) (b : List UInt8) (w : World) (hb : b.length ≤ 140737488351232) (hbc : b.length ≤ c) (hr : Rd w A (b.map bv)) :
    Calls Try.prog 39 #[.int .u8 k, .slice A b.length c] w (RetNode (nodeGet k b) w) := by
  have HR := Lib.hid hr
  clear hr
  by_cases hkind : k = 1 ∨ k = 2
  · have HS0 := Lib.hid (ref_setup k w)
    have HKIND := Lib.hid hkind
    have b1 : ((k != 1) = false) ∨ ((k != 1) = true ∧ (k != 2) = false) := by rcases hkind with rfl | rfl <;> decide
    have HGET := Lib.hid (show nodeGet k b = if (lebCount b 0 6).2.2 ≠ 0 then nodeNo (lebCount b 0 6).2.2 else if k = 2 then (if (lebCount b (lebCount b 0 6).2.1 65535).2.2 ≠ 0 then nodeNo (lebCount b (lebCount b 0 6).2.1 65535).2.2 else nodeLoop k b (lebCount b 0 6).1.toNat (lebCount b (lebCount b 0 6).2.1 65535).2.1 [] [] [(lebCount b (lebCount b 0 6).2.1 65535).1]) else nodeLoop k b (lebCount b 0 6).1.toNat (lebCount b 0 6).2.1 [] [] [] by
      unfold nodeGet; rw [if_neg (by omega)])
    clear hkind
    go_enter Try.func39, Try.ntmps39
    go_upto_region 1 with (fail)
    go_cut [25] (fun s wx => s = .bool false ∧ wx = w.alloc (.cells #[.int .u8 0, .slice none 0 0, .slice none 0 0, .slice none 0 0] 52))
    case first =>
      rcases b1 with b1 | ⟨b1, b2⟩
      all_goals
        go_wp2_with fail
        go_meet
        case rel => exact ⟨rfl, rfl⟩
    case rest =>
      obtain ⟨rfl, rfl⟩ := hcut
      clear b1
      go_wp2_with (go_at_call 84; fail_if_success skip)
      generalize ((w.alloc (.cells #[.int .u8 0, .slice none 0 0, .slice none 0 0, .slice none 0 0] 52)).alloc (.cells #[.int .u8 k, .slice none 0 0, .slice none 0 0, .slice none 0 0] 52)) = u at HS0 ⊢
      generalize w.heap.size + 1 + 1 = base at HS0 ⊢
      generalize w.heap.size + 1 = gN at HS0 ⊢
      generalize w.heap.size = gR at HS0 ⊢
      rcases lebCount_or b 0 6 with ⟨e, h, hne, _⟩ | ⟨n, m, h, _, _, hn6, hmb, _⟩
      · have HP := Lib.hid (show nodeGet k b = nodeNo e by rw [HGET.out, h, if_pos hne])
        have H := Lib.hid h
        have he1 : (e != 0) = true := by simpa using hne
        clear h hne HGET
        refine (ref_Count_at A c b 0 6 _ _ _ u hb (by omega) (HR.out.bl HS0.out.wb) H.out).mono ?_
        rintro z wq ⟨rfl, n0, rfl⟩
        have HS1 := Lib.hid (HS0.out.bl ((Bl.refl _).drewN n0))
        obtain ⟨zq0, zq1, zq2, zq3, zg0, zg1, zg2, zg3⟩ := Ob.all4 HS1.out.oR
        go_wp2_with fail
        refine bodyPost_ret (v := .tuple #[nodeV 0 none 0 0 none 0 0 none 0 0, .int .i64 e]) (results_ct rfl _ _ (HS1.out.oR.set4 _ _ _ _).1 rfl rfl Try.underlying52 rfl Try.sizeNode) rfl ?_
        exact RetNode.no HP.out ((HS1.out.wb.ch [gR]).same (HS1.out.oR.set4 _ _ _ _).2 |>.bl (by have := HS1.out.w0b; simp; omega))
      · have HG1 := Lib.hid (show nodeGet k b = if k = 2 then (if (lebCount b m 65535).2.2 ≠ 0 then nodeNo (lebCount b m 65535).2.2 else nodeLoop k b n (lebCount b m 65535).2.1 [] [] [(lebCount b m 65535).1]) else nodeLoop k b n m [] [] [] by
          rw [HGET.out, h, if_neg (by simp)]; rfl)
        have H := Lib.hid h
        have hn : n ≤ 6 := by omega
        clear h HGET hn6
        refine (ref_Count_at A c b 0 6 _ _ _ u hb (by omega) (HR.out.bl HS0.out.wb) H.out).mono ?_
        rintro z wq ⟨rfl, n0, rfl⟩
        have HS1 := Lib.hid (HS0.out.bl ((Bl.refl _).drewN n0))
        clear HS0
        generalize u.drewN n0 = u1 at HS1 ⊢
        go_upto_if 40 with (fail)
        go_cut [8] (fun s wx => Hid (∃ (p : Int) (is : List Int) (K V I : Value), s = .int .i64 p ∧ RefSt w k gR gN base wx [] [] is K V I ∧ (0 ≤ p ∧ p ≤ b.length) ∧ is.length ≤ 1 ∧ nodeLoop k b n p [] [] is = nodeGet k b))
        case first =>
          by_cases h2 : k = 2
          · subst h2
            rcases lebCount_or b m 65535 with ⟨e, h, hne, _⟩ | ⟨x, q, h, _, _, hx6, hqb, _⟩
            · have HP := Lib.hid (show nodeGet 2 b = nodeNo e by rw [HG1.out, if_pos rfl, h, if_pos hne])
              have H2 := Lib.hid h
              have he1 : (e != 0) = true := by simpa using hne
              clear h hne
              go_wp2_with (first
                | (go_at_call 84; go_must (refine (ref_Count_at A c b m 65535 _ _ _ u1 hb (by omega) (HR.out.bl HS1.out.wb) H2.out).mono ?_); rintro z wqa ⟨rfl, na, rfl⟩; have HSa := Lib.hid (HS1.out.bl ((Bl.refl _).drewN na)); obtain ⟨zq0, zq1, zq2, zq3, zg0, zg1, zg2, zg3⟩ := Ob.all4 HSa.out.oR; obtain ⟨zm0, zm1, zm2, zm3, zk0, zk1, zk2, zk3⟩ := Ob.all4 HSa.out.oN))
              refine bodyPost_ret (v := .tuple #[nodeV 0 none 0 0 none 0 0 none 0 0, .int .i64 e]) (results_ct rfl _ _ (HSa.out.oR.set4 _ _ _ _).1 rfl rfl Try.underlying52 rfl Try.sizeNode) rfl ?_
              exact RetNode.no HP.out ((HSa.out.wb.ch [gR]).same (HSa.out.oR.set4 _ _ _ _).2 |>.bl (by have := HSa.out.w0b; simp; omega))
            · have HP := Lib.hid (show nodeLoop 2 b n q [] [] [(x : Int)] = nodeGet 2 b by rw [HG1.out, if_pos rfl, h, if_neg (by simp)])
              have H2 := Lib.hid h
              clear h
              go_wp2_with (first
                | (go_at_call 84; go_must (refine (ref_Count_at A c b m 65535 _ _ _ u1 hb (by omega) (HR.out.bl HS1.out.wb) H2.out).mono ?_); rintro z wqa ⟨rfl, na, rfl⟩; have HSa := Lib.hid (HS1.out.bl ((Bl.refl _).drewN na)); obtain ⟨zq0, zq1, zq2, zq3, zg0, zg1, zg2, zg3⟩ := Ob.all4 HSa.out.oR; obtain ⟨zm0, zm1, zm2, zm3, zk0, zk1, zk2, zk3⟩ := Ob.all4 HSa.out.oN)
                | (at_builtin; go_must (refine append_one rfl _ _ 50 3 (.int .i64 0) 1 8 rfl Try.underlying50 Try.infoInt rfl (by decide) base HSa.out.aI (by rfl) (by first | rfl | simp [go_sem]) (by rfl) (by intro u hu; simp at hu; subst hu; rfl) (by simp) (by simp) HSa.out.ord.2.2 ?_); intro vc wc hownc hgrc hatc; obtain ⟨Ac, cc, rfl, hccc⟩ := hownc.slice; have S3c := HSa.out.kids (x := (x : Int)) hownc hgrc; have hNc := (HSa.out.grow hgrc HSa.out.aI.ge 3 (.int .i64 0)).2.1; have gc := hNc.cell 3 rfl; simp only [List.getElem_toArray, List.getElem_cons_zero, List.getElem_cons_succ] at gc; have fc := hNc.free 3))
              go_meet
              case rel => exact ⟨q, _, _, _, _, rfl, S3c, by omega, by simp, HP.out⟩
          · have b2 : (k == 2) = false := by simpa using h2
            have HP := Lib.hid (show nodeLoop k b n m [] [] [] = nodeGet k b by rw [HG1.out, if_neg h2])
            clear h2
            go_wp2_with fail
            go_meet
            case rel => exact ⟨m, _, _, _, _, rfl, HS1.out, by omega, by simp, HP.out⟩
        case rest =>
          obtain ⟨p1, is1, K1, V1, I1, rfl, S1, hp1, hl1, hq1⟩ := hcut.out
          clear HS1
          have HS1 := Lib.hid S1
          have HQ1 := Lib.hid hq1
          clear S1 hq1 HG1 H
          go_wp2_with fail
          go_loopw [8, 13, 14, 15, 16, 17, 18, 19] (fun s8 i _ _ _ _ _ _ wr => ∃ (j : Nat) (p : Int) (ks vs : List ByteArray) (is : List Int) (K V I : Value), s8 = .int .i64 p ∧ i = .int .i64 j ∧ j ≤ n ∧ Hid (RefSt w k gR gN base wr ks vs is K V I) ∧ (0 ≤ p ∧ p ≤ b.length) ∧ ks.length ≤ j ∧ vs.length ≤ j ∧ is.length ≤ j + 1 ∧ Hid (nodeLoop k b (n - j) p ks vs is = nodeGet k b)) (fun _ i _ _ _ _ _ _ _ => n - (intOf i).toNat)
          case atStart => exact ⟨0, p1, [], [], is1, K1, V1, I1, rfl, rfl, by omega, HS1.out, hp1, by simp, by simp, by omega, HQ1.out⟩
          case round =>
            obtain ⟨j, p, ks, vs, is, K, V, I, rfl, rfl, hj, HS, hp, hks, hvs, his, HQ⟩ := hrel
            obtain ⟨v, rfl⟩ : ∃ v : World, v = wr := ⟨_, rfl⟩
            clear HS1 HQ1
            by_cases hlt : j < n
            · have HL := Lib.hid (show nodeGet k b = nodeLoop k b ((n - (j + 1)) + 1) p ks vs is by rw [← HQ.out]; congr 1; omega)
              rcases lebRow_or b p 40 with ⟨e, h, hne, _⟩ | ⟨xs, q, h, hx40, hqb, _⟩
              · have HP := Lib.hid (show nodeGet k b = nodeNo e by rw [HL.out, nodeLoop, h, if_pos hne])
                have H2 := Lib.hid h
                have he1 : (e != 0) = true := by simpa using hne
                clear h hne
                go_wp2_with (first
                  | (go_at_call 66; go_must (refine (ref_GetRow A c b p 40 v hb hbc (by omega) (HR.out.bl HS.out.wb)).mono ?_); rw [H2.out]; rintro z wqa ⟨vqa, rfl, hqa, hbla⟩; obtain ⟨Aqa, cqa, rfl, _⟩ := hqa.slice; have HSa := Lib.hid (HS.out.bl hbla); obtain ⟨zq0, zq1, zq2, zq3, zg0, zg1, zg2, zg3⟩ := Ob.all4 HSa.out.oR; obtain ⟨zm0, zm1, zm2, zm3, zk0, zk1, zk2, zk3⟩ := Ob.all4 HSa.out.oN))
                refine bodyPost_ret (v := .tuple #[nodeV 0 none 0 0 none 0 0 none 0 0, .int .i64 e]) (results_ct rfl _ _ (HSa.out.oR.set4 _ _ _ _).1 rfl rfl Try.underlying52 rfl Try.sizeNode) rfl ?_
                exact RetNode.no HP.out ((HSa.out.wb.ch [gR]).same (HSa.out.oR.set4 _ _ _ _).2 |>.bl (by have := HSa.out.w0b; simp; omega))
              · have HL2 := Lib.hid (show nodeGet k b = if k = 2 then (if (lebCount b q 65535).2.2 ≠ 0 then nodeNo (lebCount b q 65535).2.2 else nodeLoop k b (n - (j + 1)) (lebCount b q 65535).2.1 (ks ++ [⟨xs.toArray⟩]) vs (is ++ [(lebCount b q 65535).1])) else (if (lebRow b q 40).2.2 ≠ 0 then nodeNo (lebRow b q 40).2.2 else nodeLoop k b (n - (j + 1)) (lebRow b q 40).2.1 (ks ++ [⟨xs.toArray⟩]) (vs ++ [⟨(lebRow b q 40).1.toArray⟩]) is) by
                  rw [HL.out, nodeLoop, h, if_neg (by simp)])
                have H2 := Lib.hid h
                clear h HL HQ
                by_cases h2 : k = 2
                · subst h2
                  rcases lebCount_or b q 65535 with ⟨e, h, hne, _⟩ | ⟨x, q2, h, _, _, hx6, hqb2, _⟩
                  · have HP := Lib.hid (show nodeGet 2 b = nodeNo e by rw [HL2.out, if_pos rfl, h, if_pos hne])
                    have H3 := Lib.hid h
                    have he1 : (e != 0) = true := by simpa using hne
                    clear h hne
                    go_wp2_with (first
                      | (go_at_call 66; go_must (refine (ref_GetRow A c b p 40 v hb hbc (by omega) (HR.out.bl HS.out.wb)).mono ?_); rw [H2.out]; rintro z wqa ⟨vqa, rfl, hqa, hbla⟩; obtain ⟨Aqa, cqa, rfl, _⟩ := hqa.slice; have HSa := Lib.hid (HS.out.bl hbla); obtain ⟨zq0, zq1, zq2, zq3, zg0, zg1, zg2, zg3⟩ := Ob.all4 HSa.out.oR; obtain ⟨zm0, zm1, zm2, zm3, zk0, zk1, zk2, zk3⟩ := Ob.all4 HSa.out.oN)
                      | (refine conv_step rfl 24 9 5 _ (by rfl) Try.underlying24 Try.underlying5 Try.underlying9 (by rfl) rfl hqa.rd.1 ?_)
                      | (at_builtin; go_must (refine append_one rfl _ _ 49 9 (.string .empty) 1 16 rfl Try.underlying49 Try.infoStr rfl (by decide) base HSa.out.aK (by rfl) (by first | rfl | simp [go_sem]) (by rfl) (by intro u hu; simp at hu; subst hu; rfl) (by omega) (by omega) HSa.out.ord.2.2 ?_); intro vb wb hownb hgrb hatb; obtain ⟨Ab, cb, rfl, hccb⟩ := hownb.slice; have S3b := HSa.out.keys (x := ⟨xs.toArray⟩) hownb hgrb hatb; have hNb := (HSa.out.grow hgrb HSa.out.aK.ge 1 (.int .i64 0)).2.1; have gb := hNb.cell 1 rfl; simp only [List.getElem_toArray, List.getElem_cons_zero, List.getElem_cons_succ] at gb; have fb := hNb.free 1; have HSb := Lib.hid S3b)
                      | (go_at_call 84; go_must (refine (ref_Count_at A c b q 65535 _ _ _ _ hb (by omega) (HR.out.bl HSb.out.wb) H3.out).mono ?_); rintro z wqc ⟨rfl, nc, rfl⟩; have HSc := Lib.hid (HSb.out.bl ((Bl.refl _).drewN nc)); obtain ⟨zq0, zq1, zq2, zq3, zg0, zg1, zg2, zg3⟩ := Ob.all4 HSc.out.oR; obtain ⟨zm0, zm1, zm2, zm3, zk0, zk1, zk2, zk3⟩ := Ob.all4 HSc.out.oN))
                    refine bodyPost_ret (v := .tuple #[nodeV 0 none 0 0 none 0 0 none 0 0, .int .i64 e]) (results_ct rfl _ _ (HSc.out.oR.set4 _ _ _ _).1 rfl rfl Try.underlying52 rfl Try.sizeNode) rfl ?_
                    exact RetNode.no HP.out ((HSc.out.wb.ch [gR]).same (HSc.out.oR.set4 _ _ _ _).2 |>.bl (by have := HSc.out.w0b; simp; omega))
                  · have HP := Lib.hid (show nodeLoop 2 b (n - (j + 1)) q2 (ks ++ [⟨xs.toArray⟩]) vs (is ++ [(x : Int)]) = nodeGet 2 b by rw [HL2.out, if_pos rfl, h, if_neg (by simp)])
                    have H3 := Lib.hid h
                    clear h
                    go_wp2_with (first
                      | (go_at_call 66; go_must (refine (ref_GetRow A c b p 40 v hb hbc (by omega) (HR.out.bl HS.out.wb)).mono ?_); rw [H2.out]; rintro z wqa ⟨vqa, rfl, hqa, hbla⟩; obtain ⟨Aqa, cqa, rfl, _⟩ := hqa.slice; have HSa := Lib.hid (HS.out.bl hbla); obtain ⟨zq0, zq1, zq2, zq3, zg0, zg1, zg2, zg3⟩ := Ob.all4 HSa.out.oR; obtain ⟨zm0, zm1, zm2, zm3, zk0, zk1, zk2, zk3⟩ := Ob.all4 HSa.out.oN)
                      | (refine conv_step rfl 24 9 5 _ (by rfl) Try.underlying24 Try.underlying5 Try.underlying9 (by rfl) rfl hqa.rd.1 ?_)
                      | (at_builtin; (refine append_one rfl _ _ 49 9 (.string .empty) 1 16 rfl Try.underlying49 Try.infoStr rfl (by decide) base HSa.out.aK (by rfl) (by first | rfl | simp [go_sem]) (by rfl) (by intro u hu; simp at hu; subst hu; rfl) (by omega) (by omega) HSa.out.ord.2.2 ?_); intro vb wb hownb hgrb hatb; obtain ⟨Ab, cb, rfl, hccb⟩ := hownb.slice; have S3b := HSa.out.keys (x := ⟨xs.toArray⟩) hownb hgrb hatb; have hNb := (HSa.out.grow hgrb HSa.out.aK.ge 1 (.int .i64 0)).2.1; have gb := hNb.cell 1 rfl; simp only [List.getElem_toArray, List.getElem_cons_zero, List.getElem_cons_succ] at gb; have fb := hNb.free 1; have HSb := Lib.hid S3b)
                      | (go_at_call 84; go_must (refine (ref_Count_at A c b q 65535 _ _ _ _ hb (by omega) (HR.out.bl HSb.out.wb) H3.out).mono ?_); rintro z wqc ⟨rfl, nc, rfl⟩; have HSc := Lib.hid (HSb.out.bl ((Bl.refl _).drewN nc)); obtain ⟨zq0, zq1, zq2, zq3, zg0, zg1, zg2, zg3⟩ := Ob.all4 HSc.out.oR; obtain ⟨zm0, zm1, zm2, zm3, zk0, zk1, zk2, zk3⟩ := Ob.all4 HSc.out.oN)
                      | (at_builtin; (refine append_one rfl _ _ 50 3 (.int .i64 0) 1 8 rfl Try.underlying50 Try.infoInt rfl (by decide) base HSc.out.aI (by rfl) (by first | rfl | simp [go_sem]) (by rfl) (by intro u hu; simp at hu; subst hu; rfl) (by omega) (by omega) HSc.out.ord.2.2 ?_); intro vd wd hownd hgrd hatd; obtain ⟨Ad, cd, rfl, hccd⟩ := hownd.slice; have S3d := HSc.out.kids (x := (x : Int)) hownd hgrd; have hNd := (HSc.out.grow hgrd HSc.out.aI.ge 3 (.int .i64 0)).2.1; have gd := hNd.cell 3 rfl; simp only [List.getElem_toArray, List.getElem_cons_zero, List.getElem_cons_succ] at gd; have fd := hNd.free 3))
                    go_roundw
                    case rel => exact ⟨j + 1, q2, _, _, _, _, _, _, rfl, by go_num, by omega, S3d, by omega, by simp; omega, by omega, by simp; omega, HP.out⟩
                    case measure => simp [intOf]; omega
                · have b2 : (k == 2) = false := by simpa using h2
                  rcases lebRow_or b q 40 with ⟨e, h, hne, _⟩ | ⟨ys, q2, h, hy40, hqb2, _⟩
                  · have HP := Lib.hid (show nodeGet k b = nodeNo e by rw [HL2.out, if_neg h2, h, if_pos hne])
                    have H3 := Lib.hid h
                    have he1 : (e != 0) = true := by simpa using hne
                    clear h hne h2
                    go_wp2_with (first
                      | (go_at_call 66; (with_reducible refine (ref_GetRow A c b p 40 v hb hbc (by omega) (HR.out.bl HS.out.wb)).mono ?_); rw [H2.out]; rintro z wqa ⟨vqa, rfl, hqa, hbla⟩; obtain ⟨Aqa, cqa, rfl, _⟩ := hqa.slice; have HSa := Lib.hid (HS.out.bl hbla); obtain ⟨zq0, zq1, zq2, zq3, zg0, zg1, zg2, zg3⟩ := Ob.all4 HSa.out.oR; obtain ⟨zm0, zm1, zm2, zm3, zk0, zk1, zk2, zk3⟩ := Ob.all4 HSa.out.oN)
                      | (refine conv_step rfl 24 9 5 _ (by rfl) Try.underlying24 Try.underlying5 Try.underlying9 (by rfl) rfl hqa.rd.1 ?_)
                      | (at_builtin; go_must (refine append_one rfl _ _ 49 9 (.string .empty) 1 16 rfl Try.underlying49 Try.infoStr rfl (by decide) base HSa.out.aK (by rfl) (by first | rfl | simp [go_sem]) (by rfl) (by intro u hu; simp at hu; subst hu; rfl) (by omega) (by omega) HSa.out.ord.2.2 ?_); intro vb wb hownb hgrb hatb; obtain ⟨Ab, cb, rfl, hccb⟩ := hownb.slice; have S3b := HSa.out.keys (x := ⟨xs.toArray⟩) hownb hgrb hatb; have hNb := (HSa.out.grow hgrb HSa.out.aK.ge 1 (.int .i64 0)).2.1; have gb := hNb.cell 1 rfl; simp only [List.getElem_toArray, List.getElem_cons_zero, List.getElem_cons_succ] at gb; have fb := hNb.free 1; have HSb := Lib.hid S3b)
                      | (go_at_call 66; (with_reducible refine (ref_GetRow A c b q 40 _ hb hbc (by omega) (HR.out.bl HSb.out.wb)).mono ?_); rw [H3.out]; rintro z wqc ⟨vqc, rfl, hqc, hblc⟩; obtain ⟨Aqc, cqc, rfl, _⟩ := hqc.slice; have HSc := Lib.hid (HSb.out.bl hblc); obtain ⟨zq0, zq1, zq2, zq3, zg0, zg1, zg2, zg3⟩ := Ob.all4 HSc.out.oR; obtain ⟨zm0, zm1, zm2, zm3, zk0, zk1, zk2, zk3⟩ := Ob.all4 HSc.out.oN))
                    refine bodyPost_ret (v := .tuple #[nodeV 0 none 0 0 none 0 0 none 0 0, .int .i64 e]) (results_ct rfl _ _ (HSc.out.oR.set4 _ _ _ _).1 rfl rfl Try.underlying52 rfl Try.sizeNode) rfl ?_
                    exact RetNode.no HP.out ((HSc.out.wb.ch [gR]).same (HSc.out.oR.set4 _ _ _ _).2 |>.bl (by have := HSc.out.w0b; simp; omega))
                  · have HP := Lib.hid (show nodeLoop k b (n - (j + 1)) q2 (ks ++ [⟨xs.toArray⟩]) (vs ++ [⟨ys.toArray⟩]) is = nodeGet k b by rw [HL2.out, if_neg h2, h, if_neg (by simp)])
                    have H3 := Lib.hid h
                    clear h h2
                    go_wp2_with (first
                      | (go_at_call 66; (with_reducible refine (ref_GetRow A c b p 40 v hb hbc (by omega) (HR.out.bl HS.out.wb)).mono ?_); rw [H2.out]; rintro z wqa ⟨vqa, rfl, hqa, hbla⟩; obtain ⟨Aqa, cqa, rfl, _⟩ := hqa.slice; have HSa := Lib.hid (HS.out.bl hbla); obtain ⟨zq0, zq1, zq2, zq3, zg0, zg1, zg2, zg3⟩ := Ob.all4 HSa.out.oR; obtain ⟨zm0, zm1, zm2, zm3, zk0, zk1, zk2, zk3⟩ := Ob.all4 HSa.out.oN)
                      | (refine conv_step rfl 24 9 5 _ (by rfl) Try.underlying24 Try.underlying5 Try.underlying9 (by rfl) rfl hqa.rd.1 ?_)
                      | (at_builtin; (refine append_one rfl _ _ 49 9 (.string .empty) 1 16 rfl Try.underlying49 Try.infoStr rfl (by decide) base HSa.out.aK (by rfl) (by first | rfl | simp [go_sem]) (by rfl) (by intro u hu; simp at hu; subst hu; rfl) (by omega) (by omega) HSa.out.ord.2.2 ?_); intro vb wb hownb hgrb hatb; obtain ⟨Ab, cb, rfl, hccb⟩ := hownb.slice; have S3b := HSa.out.keys (x := ⟨xs.toArray⟩) hownb hgrb hatb; have hNb := (HSa.out.grow hgrb HSa.out.aK.ge 1 (.int .i64 0)).2.1; have gb := hNb.cell 1 rfl; simp only [List.getElem_toArray, List.getElem_cons_zero, List.getElem_cons_succ] at gb; have fb := hNb.free 1; have HSb := Lib.hid S3b)
                      | (go_at_call 66; (with_reducible refine (ref_GetRow A c b q 40 _ hb hbc (by omega) (HR.out.bl HSb.out.wb)).mono ?_); rw [H3.out]; rintro z wqc ⟨vqc, rfl, hqc, hblc⟩; obtain ⟨Aqc, cqc, rfl, _⟩ := hqc.slice; have HSc := Lib.hid (HSb.out.bl hblc); obtain ⟨zq0, zq1, zq2, zq3, zg0, zg1, zg2, zg3⟩ := Ob.all4 HSc.out.oR; obtain ⟨zm0, zm1, zm2, zm3, zk0, zk1, zk2, zk3⟩ := Ob.all4 HSc.out.oN)
                      | (refine conv_step rfl 24 9 5 _ (by rfl) Try.underlying24 Try.underlying5 Try.underlying9 (by rfl) rfl hqc.rd.1 ?_)
                      | (at_builtin; (refine append_one rfl _ _ 49 9 (.string .empty) 1 16 rfl Try.underlying49 Try.infoStr rfl (by decide) base HSc.out.aV (by rfl) (by first | rfl | simp [go_sem]) (by rfl) (by intro u hu; simp at hu; subst hu; rfl) (by omega) (by omega) HSc.out.ord.2.2 ?_); intro vd wd hownd hgrd hatd; obtain ⟨Ad, cd, rfl, hccd⟩ := hownd.slice; have S3d := HSc.out.vals (x := ⟨ys.toArray⟩) hownd hgrd hatd; have hNd := (HSc.out.grow hgrd HSc.out.aV.ge 2 (.int .i64 0)).2.1; have gd := hNd.cell 2 rfl; simp only [List.getElem_toArray, List.getElem_cons_zero, List.getElem_cons_succ] at gd; have fd := hNd.free 2))
                    go_roundw
                    case rel => exact ⟨j + 1, q2, _, _, _, _, _, _, rfl, by go_num, by omega, S3d, by omega, by simp; omega, by simp; omega, by omega, HP.out⟩
                    case measure => simp [intOf]; omega
            · obtain rfl : j = n := by omega
              obtain ⟨d0, d1, d2, d3, f0, f1, f2, f3⟩ := Ob.all4 HS.out.oR
              have HE := Lib.hid (show nodeEnd k b p ks vs is = nodeGet k b by rw [← HQ.out, Nat.sub_self]; rfl)
              have HOR := HS.out.ord
              clear HQ
              by_cases hpl : p = b.length
              · have b2 : (p != (b.length : Int)) = false := by simpa using hpl
                obtain ⟨A1, c1, B1, e1', I1, ci1, rfl, rfl, rfl⟩ := ref_out HS.out
                obtain ⟨m0, m1, m2, m3, _⟩ := Ob.all4 HS.out.oN
                have hm := ref_nodeMay k A1 B1 I1 ks vs is c1 e1' ci1 v (by omega) (by omega) (by omega) HS.out.aK.rd.1 HS.out.aV.rd.1 HS.out.aI.rd.1
                cases hr : nodeRight k ks vs is 6 6
                · have HP := Lib.hid (show nodeGet k b = nodeNo 5 by rw [← HE.out]; unfold nodeEnd; rw [if_pos (.inr hr)])
                  rw [hr] at hm
                  have HM := Lib.hid hm
                  clear hm hr hpl
                  go_wp2_with (first
                    | (go_at_call 37; go_must (refine HM.out.mono ?_); rintro z w4 ⟨rfl, hbl4⟩; have HS4 := Lib.hid (HS.out.bl hbl4); obtain ⟨zq0, zq1, zq2, zq3, zg0, zg1, zg2, zg3⟩ := Ob.all4 HS4.out.oR))
                  refine bodyPost_ret (v := .tuple #[nodeV 0 none 0 0 none 0 0 none 0 0, .int .i64 5]) (results_ct rfl _ _ (HS4.out.oR.set4 _ _ _ _).1 rfl rfl Try.underlying52 rfl Try.sizeNode) rfl ?_
                  exact RetNode.no HP.out ((HS4.out.wb.ch [gR]).same (HS4.out.oR.set4 _ _ _ _).2 |>.bl (by have := HS4.out.w0b; simp; omega))
                · have HP := Lib.hid (show nodeGet k b = ⟨k, ks, vs, is, 0⟩ by rw [← HE.out]; unfold nodeEnd; rw [if_neg (by rw [hr]; simp; omega)])
                  rw [hr] at hm
                  have HM := Lib.hid hm
                  clear hm hr hpl
                  go_wp2_with (first
                    | (go_at_call 37; go_must (refine HM.out.mono ?_); rintro z w4 ⟨rfl, hbl4⟩; have HS4 := Lib.hid (HS.out.bl hbl4); obtain ⟨zq0, zq1, zq2, zq3, zg0, zg1, zg2, zg3⟩ := Ob.all4 HS4.out.oR; clear m0 m1 m2 m3; obtain ⟨m0, m1, m2, m3, _⟩ := Ob.all4 HS4.out.oN))
                  refine bodyPost_ret (v := .tuple #[nodeV k A1 ks.length c1 B1 vs.length e1' I1 is.length ci1, .int .i64 0]) (results_ct rfl _ _ (HS4.out.oR.set4 _ _ _ _).1 rfl rfl Try.underlying52 rfl Try.sizeNode) rfl ?_
                  unfold RetNode
                  rw [HP.out]
                  have hch := (HS4.out.oR.set4 (.int .u8 k) (.slice A1 ks.length c1) (.slice B1 vs.length e1') (.slice I1 is.length ci1)).2
                  have hw0 := HS.out.w0b
                  have key : ∀ {T : TypeId} {v : Value} {m : Nat} {cs : List Value}, App w4 base T 1 v m cs → App _ w.heap.size T 1 v m cs := fun a => (a.ch hch (fun g hg e => by have := a.ge g e; simp at hg; omega)).mono (by omega)
                  exact ⟨A1, c1, B1, e1', I1, ci1, rfl, key HS4.out.aK, key HS4.out.aV, key HS4.out.aI, (HS4.out.wb.ch [gR]).same hch |>.bl (by simp; omega)⟩
              · have b2 : (p != (b.length : Int)) = true := by simpa using hpl
                have HP := Lib.hid (show nodeGet k b = nodeNo 5 by rw [← HE.out]; unfold nodeEnd; rw [if_pos (.inl hpl)])
                clear hpl
                go_wp2_with fail
                refine bodyPost_ret (v := .tuple #[nodeV 0 none 0 0 none 0 0 none 0 0, .int .i64 5]) (results_ct rfl _ _ (HS.out.oR.set4 _ _ _ _).1 rfl rfl Try.underlying52 rfl Try.sizeNode) rfl ?_
                exact RetNode.no HP.out ((HS.out.wb.ch [gR]).same (HS.out.oR.set4 _ _ _ _).2 |>.bl (by have := HS.out.w0b; simp; omega))
  · have HP := Lib.hid (show nodeGet k b = nodeNo 2 by unfold nodeGet; rw [if_pos (by omega)])
    have b1 : (k != 1) = true := by simp; omega
    have b2 : (k != 2) = true := by simp; omega
    clear hkind
    go_enter Try.func39, Try.ntmps39
    go_wp2_with fail
    refine bodyPost_ret (v := .tuple #[nodeV 0 none 0 0 none 0 0 none 0 0, .int .i64 2]) (results_ct rfl _ _ (Ob.new w #[.int .u8 0, .slice none 0 0, .slice none 0 0, .slice none 0 0] 52) rfl rfl Try.underlying52 rfl Try.sizeNode) rfl ?_
    exact RetNode.no HP.out ((Bl.refl w).alloc _)
end Go.Proofs.Ytedmamchfgkkfaa
