/- The order of texts as the model compares them: plain laws. No program in sight. -/
import Derived.Test.YtedmamchfgkkfaaLebSpec
namespace Go.Proofs.Ytedmamchfgkkfaa
open Go.RowKit

theorem less_lex (x : List UInt8) : ∀ y : List UInt8, Op.bytesLess x y = decide (x < y) := by
  induction x with
  | nil => intro y; cases y <;> simp [Op.bytesLess]
  | cons a x ih =>
    intro y
    cases y with
    | nil => simp [Op.bytesLess]
    | cons b y =>
      rw [Op.bytesLess, ih y]
      simp only [List.cons_lt_cons_iff]
      by_cases h1 : a < b <;> by_cases h2 : a = b <;> by_cases h3 : x < y <;> simp [h1, h2, h3]
/-- x stands ahead of y. -/
def sLt (x y : ByteArray) : Bool := Op.bytesLess x.toList y.toList
theorem sLt_iff (x y : ByteArray) : sLt x y = true ↔ x.toList < y.toList := by
  unfold sLt; rw [less_lex]; simp
theorem sLt_irrefl (x : ByteArray) : sLt x x = false := by
  cases h : sLt x x
  · rfl
  · exact absurd ((sLt_iff x x).1 h) (List.lt_irrefl _)
theorem sLt_trans {x y z : ByteArray} (h : sLt x y = true) (k : sLt y z = true) : sLt x z = true := (sLt_iff x z).2 (List.lt_trans ((sLt_iff x y).1 h) ((sLt_iff y z).1 k))
theorem sLt_asymm {x y : ByteArray} (h : sLt x y = true) : sLt y x = false := by
  cases k : sLt y x
  · rfl
  · have := sLt_trans h k
    rw [sLt_irrefl] at this
    cases this
theorem sLt_total {x y : ByteArray} (h : sLt x y = false) (k : sLt y x = false) : x = y := by
  have h1 : ¬ x.toList < y.toList := fun e => by rw [(sLt_iff x y).2 e] at h; cases h
  have h2 : ¬ y.toList < x.toList := fun e => by rw [(sLt_iff y x).2 e] at k; cases k
  exact str_inj (List.le_antisymm (List.not_lt.1 h2) (List.not_lt.1 h1))
end Go.Proofs.Ytedmamchfgkkfaa
