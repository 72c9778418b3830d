/- Layer 18 (node) walked: the closures of Get. -/
import Derived.Test.YtedmamchfgkkfaaNodeG
import Derived.Test.YtedmamchfgkkfaaDeedC
set_option linter.unusedVariables false
set_option linter.unusedSimpArgs false
namespace Go.Proofs.Ytedmamchfgkkfaa
open Go.RowKit
set_option maxRecDepth 100000
set_option maxHeartbeats 4000000

/-- What 'number' and 'text' answer: the number (the text), the place and the error behind it. -/
def ndNum (b : List UInt8) (most p e : Int) : Int × Int × Int := if e ≠ 0 then (0, p, e) else if (lebCount b p most).2.2 = 0 then lebCount b p most else (0, p, (lebCount b p most).2.2)
def ndText (b : List UInt8) (most p e : Int) : List UInt8 × Int × Int := if e ≠ 0 then ([], p, e) else if (lebRow b p most).2.2 = 0 then lebRow b p most else ([], p, (lebRow b p most).2.2)
/-- The three captured variables. -/
structure Cap (w : World) (gE gB gA : Nat) (A : Option Addr) (n c : Nat) (p e : Int) : Prop where
  oE : Ob w gE 28 #[.int .i64 e]
  oB : Ob w gB 24 #[.slice A n c]
  oA : Ob w gA 3 #[.int .i64 p]
  neB : gB ≠ gE ∧ gB ≠ gA ∧ gE ≠ gA
theorem Cap.bl {w w' : World} {gE gB gA : Nat} {A : Option Addr} {n c : Nat} {p e : Int} (h : Cap w gE gB gA A n c p e) (k : Bl w w') : Cap w' gE gB gA A n c p e := ⟨h.oE.bl k, h.oB.bl k, h.oA.bl k, h.neB⟩
theorem Cap.setE {w : World} {gE gB gA : Nat} {A : Option Addr} {n c : Nat} {p e : Int} (h : Cap w gE gB gA A n c p e) (f : Int) : Cap (w.setCell ⟨gE, 0, none⟩ (.int .i64 f)) gE gB gA A n c p f :=
  ⟨by have := h.oE.set 0 (.int .i64 f); simpa using this, h.oB.ch (Ch.put w gE 0 _) (by simp; exact h.neB.1), h.oA.ch (Ch.put w gE 0 _) (by simp; exact fun e => h.neB.2.2 e.symm), h.neB⟩
theorem Cap.setA {w : World} {gE gB gA : Nat} {A : Option Addr} {n c : Nat} {p e : Int} (h : Cap w gE gB gA A n c p e) (q : Int) : Cap (w.setCell ⟨gA, 0, none⟩ (.int .i64 q)) gE gB gA A n c q e :=
  ⟨h.oE.ch (Ch.put w gA 0 _) (by simp; exact h.neB.2.2), h.oB.ch (Ch.put w gA 0 _) (by simp; exact h.neB.2.1), by have := h.oA.set 0 (.int .i64 q); simpa using this, h.neB⟩
def RetNdN (r : Int × Int × Int) (gE gB gA : Nat) (A : Option Addr) (n c : Nat) (w : World) (e : Ending) (w' : World) : Prop :=
  e = .returned (.int .i64 r.1) ∧ Cap w' gE gB gA A n c r.2.1 r.2.2 ∧ Ch [gE, gA] w w'
theorem RetNdN.mk {r : Int × Int × Int} {gE gB gA : Nat} {A : Option Addr} {n c : Nat} {w w' : World} {v p e : Int} (h : r = (v, p, e)) (hc : Cap w' gE gB gA A n c p e) (hw : Ch [gE, gA] w w') : RetNdN r gE gB gA A n c w (.returned (.int .i64 v)) w' := by subst h; exact ⟨rfl, hc, hw⟩
def RetNdT (r : List UInt8 × Int × Int) (gE gB gA : Nat) (A : Option Addr) (n c : Nat) (w : World) (e : Ending) (w' : World) : Prop :=
  e = .returned (.string ⟨r.1.toArray⟩) ∧ Cap w' gE gB gA A n c r.2.1 r.2.2 ∧ Ch [gE, gA] w w'
theorem RetNdT.mk {r : List UInt8 × Int × Int} {gE gB gA : Nat} {A : Option Addr} {n c : Nat} {w w' : World} {xs : List UInt8} {p e : Int} (h : r = (xs, p, e)) (hc : Cap w' gE gB gA A n c p e) (hw : Ch [gE, gA] w w') : RetNdT r gE gB gA A n c w (.returned (.string ⟨xs.toArray⟩)) w' := by subst h; exact ⟨rfl, hc, hw⟩

theorem nd_number (gE gB gA : Nat) (A : Option Addr) (c : Nat) (b : List UInt8) (p e0 most : Int) (w : World) (hb : b.length ≤ 140737488351232) (hp : Hid (-9223372036854775808 ≤ p ∧ p ≤ 9223372036854775807)) (hm : 0 ≤ most ∧ most ≤ 100000) (hr : Rd w A (b.map bv)) (hcap : Cap w gE gB gA A b.length c p e0) :
    Calls Try.prog 80 #[.int .u64 most, .pointer (some ⟨gE, 0, none⟩), .pointer (some ⟨gB, 0, none⟩), .pointer (some ⟨gA, 0, none⟩)] w (RetNdN (ndNum b most p e0) gE gB gA A b.length c w) := by
  have HR := Lib.hid hr
  have HC := Lib.hid hcap
  have cE : w.cell? ⟨gE, 0, none⟩ = some (.int .i64 e0) := hcap.oE.cell 0 rfl
  have cB : w.cell? ⟨gB, 0, none⟩ = some (.slice A b.length c) := hcap.oB.cell 0 rfl
  have cA : w.cell? ⟨gA, 0, none⟩ = some (.int .i64 p) := hcap.oA.cell 0 rfl
  have fE := hcap.oE.free 0
  have fA := hcap.oA.free 0
  clear hr hcap
  by_cases he : e0 = 0
  · subst he
    have hnum : ndNum b most p 0 = if (lebCount b p most).2.2 = 0 then lebCount b p most else (0, p, (lebCount b p most).2.2) := by unfold ndNum; rw [if_neg (by simp)]
    rcases lebGet_or b p with ⟨e, h, hne, _⟩ | ⟨v, m, h, hv, hml, hpm, h0⟩
    · have HN := Lib.hid (show ndNum b most p 0 = (0, p, e) by rw [hnum]; unfold lebCount; rw [h]; simp [hne])
      have H := Lib.hid h
      have he1 : (e != 0) = true := by simpa using hne
      clear h hne hnum
      go_enter Try.func80, Try.ntmps80
      go_wp2_with (first
        | (go_at_call 81; go_must (refine (leb_Get_at A c b p _ _ _ w hb hp.out HR.out H.out).mono ?_); rintro e w1 ⟨rfl, n1, rfl⟩))
      go_ret
      exact RetNdN.mk HN.out (Cap.setE (HC.out.bl ((Bl.refl w).drewN n1)) e) (((Ch.refl _ w).drewN n1).trans (Ch.put _ gE 0 _) (by simp))
    · by_cases hvm : most < (v : Int)
      · have HN := Lib.hid (show ndNum b most p 0 = (0, p, 3) by rw [hnum]; unfold lebCount; rw [h]; simp [hvm])
        have H := Lib.hid h
        clear h hnum hv
        go_enter Try.func80, Try.ntmps80
        go_wp2_with (first
          | (go_at_call 81; go_must (refine (leb_Get_at A c b p _ _ _ w hb hp.out HR.out H.out).mono ?_); rintro e w1 ⟨rfl, n1, rfl⟩))
        go_ret
        exact RetNdN.mk HN.out (Cap.setE (HC.out.bl ((Bl.refl w).drewN n1)) 3) (((Ch.refl _ w).drewN n1).trans (Ch.put _ gE 0 _) (by simp))
      · have HN := Lib.hid (show ndNum b most p 0 = ((v : Int), (m : Int), 0) by have hc : lebCount b p most = ((v : Int), (m : Int), 0) := (by unfold lebCount; rw [h, if_neg (by simp), if_neg (by simp only; omega)]); rw [hnum, hc]; rfl)
        have H := Lib.hid h
        have hw6 : wrap64 (v : Int) = (v : Int) := by unfold wrap64; omega
        clear h hnum hv
        go_enter Try.func80, Try.ntmps80
        go_wp2_with (first
          | (go_at_call 81; go_must (refine (leb_Get_at A c b p _ _ _ w hb hp.out HR.out H.out).mono ?_); rintro e w1 ⟨rfl, n1, rfl⟩))
        go_ret
        exact RetNdN.mk HN.out (Cap.setA (HC.out.bl ((Bl.refl w).drewN n1)) _) (((Ch.refl _ w).drewN n1).trans (Ch.put _ gA 0 _) (by simp))
  · have HN := Lib.hid (show ndNum b most p e0 = (0, p, e0) by unfold ndNum; rw [if_pos he])
    have he1 : (e0 != 0) = true := by simpa using he
    clear he
    go_enter Try.func80, Try.ntmps80
    go_wp2_with fail
    go_ret
    exact RetNdN.mk HN.out HC.out (Ch.refl _ w)

theorem nd_text (gE gB gA : Nat) (A : Option Addr) (c : Nat) (b : List UInt8) (p e0 most : Int) (w : World) (hb : b.length ≤ 140737488351232) (hbc : b.length ≤ c) (hp : Hid (-9223372036854775808 ≤ p ∧ p ≤ 9223372036854775807)) (hm : 0 ≤ most ∧ most ≤ 100000) (hr : Rd w A (b.map bv)) (hcap : Cap w gE gB gA A b.length c p e0) :
    Calls Try.prog 82 #[.int .i64 most, .pointer (some ⟨gE, 0, none⟩), .pointer (some ⟨gB, 0, none⟩), .pointer (some ⟨gA, 0, none⟩)] w (RetNdT (ndText b most p e0) gE gB gA A b.length c w) := by
  have HR := Lib.hid hr
  have HC := Lib.hid hcap
  have cE : w.cell? ⟨gE, 0, none⟩ = some (.int .i64 e0) := hcap.oE.cell 0 rfl
  have cB : w.cell? ⟨gB, 0, none⟩ = some (.slice A b.length c) := hcap.oB.cell 0 rfl
  have cA : w.cell? ⟨gA, 0, none⟩ = some (.int .i64 p) := hcap.oA.cell 0 rfl
  clear hr hcap
  by_cases he : e0 = 0
  · subst he
    have hnum : ndText b most p 0 = if (lebRow b p most).2.2 = 0 then lebRow b p most else ([], p, (lebRow b p most).2.2) := by unfold ndText; rw [if_neg (by simp)]
    rcases lebRow_or b p most with ⟨f, h, hf, _⟩ | ⟨xs, m, h, h1, h2, h3⟩
    · have HN := Lib.hid (show ndText b most p 0 = ([], p, f) by rw [hnum, h, if_neg hf])
      have H := Lib.hid h
      have he1 : (f == 0) = false := by simpa using hf
      clear h hf hnum
      go_enter Try.func82, Try.ntmps82
      go_wp2_with (first
        | (go_at_call 83; go_must (refine (leb_GetRow A c b p most w hb hbc hp.out (by omega) HR.out).mono ?_); rw [H.out]; rintro e w1 ⟨B, rfl, hown1, hbl1⟩; have HC1 := Lib.hid (HC.out.bl hbl1); have cE1 : w1.cell? ⟨gE, 0, none⟩ = some (.int .i64 0) := HC1.out.oE.cell 0 rfl; have fE := HC1.out.oE.free 0)
        | (refine conv_step rfl 24 9 5 _ (by rfl) Try.underlying24 Try.underlying5 Try.underlying9 (xs := []) (by rfl) rfl (Rd.nil _ _) ?_))
      go_ret
      exact RetNdT.mk HN.out (HC1.out.setE f) ((hbl1.ch _).trans (Ch.put _ gE 0 _) (by simp))
    · have HN := Lib.hid (show ndText b most p 0 = (xs, (m : Int), 0) by rw [hnum, h]; rfl)
      have H := Lib.hid h
      clear h hnum
      go_enter Try.func82, Try.ntmps82
      go_wp2_with (first
        | (go_at_call 83; go_must (refine (leb_GetRow A c b p most w hb hbc hp.out (by omega) HR.out).mono ?_); rw [H.out]; rintro e w1 ⟨B, rfl, hown1, hbl1⟩; have HC1 := Lib.hid (HC.out.bl hbl1); have HC2 := Lib.hid (HC1.out.setE 0); have cE1 : w1.cell? ⟨gE, 0, none⟩ = some (.int .i64 0) := HC1.out.oE.cell 0 rfl; have fE := HC1.out.oE.free 0; have cA1 : w1.cell? ⟨gA, 0, none⟩ = some (.int .i64 p) := HC1.out.oA.cell 0 rfl; have fA := HC1.out.oA.free 0; have HNE := Lib.hid HC.out.neB; have hEA : gE ≠ gA := HC.out.neB.2.2; have hAE : gA ≠ gE := fun e => HC.out.neB.2.2 e.symm)
        | (refine conv_step rfl 24 9 5 _ (by rfl) Try.underlying24 Try.underlying5 Try.underlying9 (xs := xs) (by rfl) rfl (App.rd (hown1.ch (((Ch.put w1 gE 0 _).mono (M := [gE, gA]) (by simp)).same ((Ch.put _ gA 0 _).mono (by simp))) (by intro g hg e; have h1 := hown1.ge g e; have h2 := HC.out.oE.lt; have h3 := HC.out.oA.lt; simp at hg; omega))).1 ?_))
      go_ret
      exact RetNdT.mk HN.out (HC2.out.setA m) ((hbl1.ch _).trans (((Ch.put w1 gE 0 _).mono (M := [gE, gA]) (by simp)).same ((Ch.put _ gA 0 _).mono (by simp))) (by simp))
  · have HN := Lib.hid (show ndText b most p e0 = ([], p, e0) by unfold ndText; rw [if_pos he])
    have he1 : (e0 != 0) = true := by simpa using he
    clear he
    go_enter Try.func82, Try.ntmps82
    go_wp2_with fail
    go_ret
    exact RetNdT.mk HN.out HC.out (Ch.refl _ w)
end Go.Proofs.Ytedmamchfgkkfaa
