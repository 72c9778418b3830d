/- Layer 18 (node) walked: slices.Clone of texts. -/
import Derived.Test.YtedmamchfgkkfaaNodeV
import Derived.Test.YtedmamchfgkkfaaNodeJS
import Derived.Test.YtedmamchfgkkfaaSepA
import Derived.Lib.LazyBuf
set_option linter.unusedVariables false
set_option linter.unusedSimpArgs false
namespace Go.Proofs.Ytedmamchfgkkfaa
open Go.RowKit
set_option maxRecDepth 100000
set_option maxHeartbeats 2000000

theorem Rd.none_nil {w : World} {xs : List Value} (h : Rd w none xs) : xs = [] := by
  apply Classical.byContradiction
  intro hn
  obtain ⟨_, _, e, _⟩ := h hn
  cases e
theorem clone_S (A : Option Addr) (c : Nat) (xs : List ByteArray) (w : World) (hl : xs.length ≤ 1000000) (hr : Rd w A (xs.map sv)) :
    Calls Try.prog 90 #[.slice A xs.length c] w (RetS xs w) := by
  have kn := fun (w : World) a l c => Lib.run_eql_slice_nil (P := Try.prog) w 49 9 a l c 0 0 Try.underlying49
  cases A with
  | none =>
    obtain rfl : xs = [] := by simpa using hr.none_nil
    go_enter Try.func90, Try.ntmps90
    go_wp2_with fail
    go_ret
    exact RetS.mk (App.nil _ _ _ _) (Bl.refl w)
  | some p =>
    have HR := Lib.hid (hr.bl ((Bl.refl w).alloc (.cells #[] 9)))
    have HA := Lib.hid (App.fresh (base := w.heap.size) (n := 0) (size := 1) (heap_alloc_new w (.cells #[] 9)) (Nat.le_refl _) (by decide) rfl)
    clear hr
    go_enter Try.func90, Try.ntmps90
    go_wp2_with (at_builtin; go_must (refine append_row rfl _ _ 49 9 (.string .empty) 1 16 rfl Try.underlying49 Try.infoStr rfl (by decide) w.heap.size HA.out (by rfl) (by rfl) HR.out (by simp) (sv_one _) (by simp; omega) (by simp; omega) (by simp) ?_); intro v5 w5 hown5 hgr5 hat5)
    go_ret
    refine RetS.mk (by simpa using hown5) ?_
    exact Bl.grown ((Bl.refl w).alloc _) hgr5 (fun q hq => by simp [Value.ownBlock] at hq; omega)
end Go.Proofs.Ytedmamchfgkkfaa
