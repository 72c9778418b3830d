/- Layer 18 (node): which nodes are right, as a plain function. No program in sight. -/
import Derived.Test.YtedmamchfgkkfaaStrOrd
namespace Go.Proofs.Ytedmamchfgkkfaa
open Go.RowKit

/-- Is the key at a place one, and behind the one ahead of it? -/
def keyOK (keys : List ByteArray) (j : Nat) : Bool :=
  match keys[j]? with
  | none => true
  | some x => decide (1 ≤ x.size ∧ x.size ≤ 40) && (j == 0 || match keys[j - 1]? with | some y => sLt y x | none => true)
def keysOK (keys : List ByteArray) : Bool := (List.range keys.length).all (keyOK keys)
def valsOK (vals : List ByteArray) : Bool := vals.all (fun v => decide (v.size ≤ 40))
def kidsOK (kids : List Int) : Bool := kids.all (fun k => decide (2 ≤ k ∧ k < 65536))
def nodeRight (k : Int) (keys vals : List ByteArray) (kids : List Int) (leaf inner : Nat) : Bool :=
  keysOK keys && (decide (k = 1) && valsOK vals && decide (keys.length ≤ leaf ∧ vals.length = keys.length ∧ kids.length = 0) || decide (k = 2) && kidsOK kids && decide (1 ≤ keys.length ∧ keys.length ≤ inner ∧ kids.length = keys.length + 1 ∧ vals.length = 0))
theorem keysOK_bad {keys : List ByteArray} {j : Nat} (hj : j < keys.length) (h : keyOK keys j = false) : keysOK keys = false := by
  unfold keysOK
  rw [List.all_eq_false]
  exact ⟨j, List.mem_range.2 hj, by simp [h]⟩
theorem keysOK_good {keys : List ByteArray} (h : ∀ j, j < keys.length → keyOK keys j = true) : keysOK keys = true := by
  unfold keysOK
  rw [List.all_eq_true]
  exact fun j hj => h j (List.mem_range.1 hj)
/-- The ways in which a key may be right, or not. -/
theorem keyOK_cases {keys : List ByteArray} {j : Nat} {x : ByteArray} (hx : keys[j]? = some x) :
    (keyOK keys j = false ∧ x.size < 1) ∨ (keyOK keys j = false ∧ 40 < x.size) ∨ (∃ y, 0 < j ∧ keys[j - 1]? = some y ∧ keyOK keys j = false ∧ 1 ≤ x.size ∧ x.size ≤ 40 ∧ sLt y x = false) ∨
    (j = 0 ∧ keyOK keys j = true ∧ 1 ≤ x.size ∧ x.size ≤ 40) ∨ ∃ y, 0 < j ∧ keys[j - 1]? = some y ∧ keyOK keys j = true ∧ 1 ≤ x.size ∧ x.size ≤ 40 ∧ sLt y x = true := by
  by_cases h1 : x.size < 1
  · exact .inl ⟨by unfold keyOK; rw [hx]; simp; omega, h1⟩
  by_cases h2 : 40 < x.size
  · exact .inr (.inl ⟨by unfold keyOK; rw [hx]; simp; omega, h2⟩)
  have hd : decide (1 ≤ x.size ∧ x.size ≤ 40) = true := by simp; omega
  by_cases h0 : j = 0
  · exact .inr (.inr (.inr (.inl ⟨h0, by unfold keyOK; rw [hx]; simp only [hd, h0, beq_self_eq_true, Bool.true_or, Bool.and_self], by omega, by omega⟩)))
  · have hj : j < keys.length := (List.getElem?_eq_some_iff.1 hx).1
    obtain ⟨y, hy⟩ := get_some keys (j - 1) (by omega)
    have hz : (j == 0) = false := by simpa using h0
    have hk : keyOK keys j = sLt y x := by unfold keyOK; rw [hx, hy]; simp only [hd, hz, Bool.false_or, Bool.true_and]
    cases h3 : sLt y x
    · exact .inr (.inr (.inl ⟨y, by omega, hy, by rw [hk, h3], by omega, by omega, h3⟩))
    · exact .inr (.inr (.inr (.inr ⟨y, by omega, hy, by rw [hk, h3], by omega, by omega, h3⟩)))
end Go.Proofs.Ytedmamchfgkkfaa
