/- Layer 18 (node): what two nodes are put together to, as a plain function. No program in sight. -/
import Derived.Test.YtedmamchfgkkfaaNodeR
set_option linter.unusedVariables false
set_option linter.unusedSimpArgs false
namespace Go.Proofs.Ytedmamchfgkkfaa
open Go.RowKit

def joinOK (ks : List ByteArray) (sep : ByteArray) (ks2 : List ByteArray) : Bool := ks.all (fun x => sLt x sep) && ks2.all (fun x => !sLt x sep)
def joinEnd (k : Int) (ks vs : List ByteArray) (is : List Int) : NodeR := if nodeRight k ks vs is 12 13 = false then nodeNo 2 else ⟨k, ks, vs, is, 0⟩
def nodeJoin (a : Nd) (sep : ByteArray) (b : Nd) : NodeR :=
  if nodeRight a.k a.keys a.vals a.kids 12 13 = false ∨ nodeRight b.k b.keys b.vals b.kids 12 13 = false ∨ a.k ≠ b.k ∨ sep.size < 1 ∨ 40 < sep.size then nodeNo 2
  else if a.k = 2 then joinEnd 2 (a.keys ++ [sep] ++ b.keys) [] (a.kids ++ b.kids)
  else if joinOK a.keys sep b.keys = false then nodeNo 2
  else joinEnd a.k (a.keys ++ b.keys) (a.vals ++ b.vals) []
theorem keysOK_lt {keys : List ByteArray} (h : keysOK keys = true) {j : Nat} {x y : ByteArray} (hx : keys[j]? = some x) (hy : keys[j + 1]? = some y) : sLt x y = true := by
  have hj := (List.getElem?_eq_some_iff.1 hy).1
  have h1 := List.all_eq_true.1 h (j + 1) (List.mem_range.2 hj)
  rcases keyOK_cases hy with ⟨hf, _⟩ | ⟨hf, _⟩ | ⟨_, _, _, hf, _⟩ | ⟨h0, _⟩ | ⟨z, _, hz, _, _, _, h3⟩
  · rw [hf] at h1; cases h1
  · rw [hf] at h1; cases h1
  · rw [hf] at h1; cases h1
  · omega
  · rw [Nat.add_sub_cancel, hx] at hz
    cases hz
    exact h3
/-- Keys rise. -/
theorem keysOK_rise {keys : List ByteArray} (h : keysOK keys = true) (d : Nat) : ∀ {i : Nat} {x y : ByteArray}, keys[i]? = some x → keys[i + d + 1]? = some y → sLt x y = true := by
  induction d with
  | zero => intro i x y hx hy; exact keysOK_lt h hx hy
  | succ d ih =>
    intro i x y hx hy
    have hj := (List.getElem?_eq_some_iff.1 hy).1
    obtain ⟨z, hz⟩ := get_some keys (i + 1) (by omega)
    exact sLt_trans (keysOK_lt h hx hz) (ih hz (by rw [show i + 1 + d + 1 = i + (d + 1) + 1 by omega]; exact hy))
theorem all_lt_last {keys : List ByteArray} (h : keysOK keys = true) {sep x : ByteArray} (hx : keys[keys.length - 1]? = some x) : keys.all (fun y => sLt y sep) = sLt x sep := by
  cases hs : sLt x sep
  · rw [List.all_eq_false]; exact ⟨x, List.mem_of_getElem? hx, by rw [hs]; simp⟩
  · rw [List.all_eq_true]
    intro y hy
    obtain ⟨j, hj⟩ := List.mem_iff_getElem?.1 hy
    have hjl := (List.getElem?_eq_some_iff.1 hj).1
    rcases (by omega : j = keys.length - 1 ∨ j < keys.length - 1) with e | e
    · rw [e, hx] at hj; cases hj; exact hs
    · exact sLt_trans (keysOK_rise h (keys.length - 1 - j - 1) hj (by rw [show j + (keys.length - 1 - j - 1) + 1 = keys.length - 1 by omega]; exact hx)) hs
theorem all_ge_first {keys : List ByteArray} (h : keysOK keys = true) {sep x : ByteArray} (hx : keys[0]? = some x) : keys.all (fun y => !sLt y sep) = !sLt x sep := by
  cases hs : sLt x sep
  · rw [Bool.not_false, List.all_eq_true]
    intro y hy
    obtain ⟨j, hj⟩ := List.mem_iff_getElem?.1 hy
    cases j with
    | zero => rw [hx] at hj; cases hj; rw [hs]; rfl
    | succ j =>
      have h1 := keysOK_rise h j hx (by rw [Nat.zero_add]; exact hj)
      cases h2 : sLt y sep
      · rfl
      · rw [sLt_trans h1 h2] at hs; cases hs
  · rw [Bool.not_true, List.all_eq_false]; exact ⟨x, List.mem_of_getElem? hx, by rw [hs]; simp⟩
end Go.Proofs.Ytedmamchfgkkfaa
