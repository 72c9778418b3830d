/- Layer 22 (deed) walked: the reader that takes fields off. -/
import Derived.Test.YtedmamchfgkkfaaDeedB
import Derived.Test.YtedmamchfgkkfaaLib4
namespace Go.Proofs.Ytedmamchfgkkfaa
open Go.RowKit
set_option maxRecDepth 100000
set_option maxHeartbeats 2000000

/-- The reader: a place, an error. -/
def rdNum (b : List UInt8) (p e : Int) : Int × Int × Int := if e ≠ 0 then (0, p, e) else if (lebGet b p).2.2 = 0 then lebGet b p else ((lebGet b p).1, p, (lebGet b p).2.2)
def rdRow (b : List UInt8) (p e most : Int) : List UInt8 × Int × Int := if e ≠ 0 then ([], p, e) else if (lebRow b p most).2.2 = 0 then lebRow b p most else ([], p, (lebRow b p most).2.2)
abbrev rdrV (A : Option Addr) (n c : Nat) (p e : Int) : Array Value := #[.slice A n c, .int .i64 p, .int .i64 e]
theorem Try.sizeInt : (Try.prog.info? 3).map (·.size) = some 1 := by kernel_rfl
theorem Try.sizeErr : (Try.prog.info? 28).map (·.size) = some 1 := by kernel_rfl

def RetNum (b : List UInt8) (p e0 : Int) (R : Nat) (A : Option Addr) (c : Nat) (w : World) (e : Ending) (w' : World) : Prop :=
  e = .returned (.int .u64 (rdNum b p e0).1) ∧ Ob w' R 85 (rdrV A b.length c (rdNum b p e0).2.1 (rdNum b p e0).2.2) ∧ Ch [R] w w'
theorem RetNum.mk {b : List UInt8} {p e0 n q f : Int} {R : Nat} {A : Option Addr} {c : Nat} {w w' : World} (h : rdNum b p e0 = (n, q, f)) (ho : Ob w' R 85 (rdrV A b.length c q f)) (hc : Ch [R] w w') : RetNum b p e0 R A c w (.returned (.int .u64 n)) w' := by
  unfold RetNum; rw [h]; exact ⟨rfl, ho, hc⟩

theorem rdr_number (R : Nat) (A : Option Addr) (c : Nat) (b : List UInt8) (p e0 : Int) (w : World) (hb : b.length ≤ 140737488351232) (hp : Hid (-9223372036854775808 ≤ p ∧ p ≤ 9223372036854775807)) (hr : Rd w A (b.map bv)) (hob : Ob w R 85 (rdrV A b.length c p e0)) :
    Calls Try.prog 63 #[.pointer (some ⟨R, 0, none⟩)] w (RetNum b p e0 R A c w) := by
  have HR := Lib.hid hr
  have HO := Lib.hid hob
  have c0 := hob.cell 0 rfl
  have c1 := hob.cell 1 rfl
  have c2 := hob.cell 2 rfl
  have f1 := hob.free 1
  have f2 := hob.free 2
  clear hr hob
  by_cases he : e0 = 0
  · subst he
    have hnum : rdNum b p 0 = if (lebGet b p).2.2 = 0 then lebGet b p else ((lebGet b p).1, p, (lebGet b p).2.2) := by unfold rdNum; rw [if_neg (by simp)]
    rcases lebGet_or b p with ⟨e, h, hne, _⟩ | ⟨v, m, h, _⟩
    · have HN := Lib.hid (show rdNum b p 0 = (0, p, e) by rw [hnum, h, if_neg hne])
      have H := Lib.hid h
      have he1 : (e == 0) = false := by simpa using hne
      clear h hne hnum
      go_enter Try.func63, Try.ntmps63
      go_wp2_with fail
      go_quiet ((go_at_call 81; exact Calls.quiet_of (leb_Get_at A c b p _ _ _ _ hb hp.out (HR.out.dr ⟨_, rfl⟩) H.out)))
      go_wp2_with fail
      go_ret
      exact RetNum.mk HN.out (Ob.set (w := w.drewN nq) HO.out 2 _) (Ch.same ((Ch.refl _ w).drewN nq) (Ch.put _ R 2 _))
    · have HN := Lib.hid (show rdNum b p 0 = ((v : Int), (m : Int), 0) by rw [hnum, h, if_pos rfl])
      have H := Lib.hid h
      clear h hnum
      go_enter Try.func63, Try.ntmps63
      go_wp2_with fail
      go_quiet ((go_at_call 81; exact Calls.quiet_of (leb_Get_at A c b p _ _ _ _ hb hp.out (HR.out.dr ⟨_, rfl⟩) H.out)))
      go_wp2_with fail
      go_ret
      exact RetNum.mk HN.out (Ob.set (Ob.set (w := w.drewN nq) HO.out 2 (.int .i64 0)) 1 (.int .i64 m)) (Ch.same (Ch.same ((Ch.refl _ w).drewN nq) (Ch.put _ R 2 _)) (Ch.put _ R 1 _))
  · have HN := Lib.hid (show rdNum b p e0 = (0, p, e0) by unfold rdNum; rw [if_pos he])
    have he1 : (e0 != 0) = true := by simpa using he
    clear he
    go_enter Try.func63, Try.ntmps63
    go_wp2_with fail
    go_ret
    exact RetNum.mk HN.out HO.out (Ch.refl _ _)

def RetRdRow (r : List UInt8 × Int × Int) (b : List UInt8) (R : Nat) (A : Option Addr) (c : Nat) (w : World) (e : Ending) (w' : World) : Prop :=
  ∃ B, e = .returned (.slice B r.1.length r.1.length) ∧ App w' w.heap.size 5 1 (.slice B r.1.length r.1.length) r.1.length (r.1.map bv) ∧ Ob w' R 85 (rdrV A b.length c r.2.1 r.2.2) ∧ Ch [R] w w'
theorem RetRdRow.mk {r : List UInt8 × Int × Int} {b : List UInt8} {R : Nat} {A : Option Addr} {c : Nat} {w w' : World} {xs : List UInt8} {q f : Int} {n : Nat} {B : Option Addr} (h : r = (xs, q, f)) (hn : n = xs.length)
    (hown : App w' w.heap.size 5 1 (.slice B n n) n (xs.map bv)) (ho : Ob w' R 85 (rdrV A b.length c q f)) (hc : Ch [R] w w') : RetRdRow r b R A c w (.returned (.slice B n n)) w' := by subst h; subst hn; exact ⟨B, rfl, hown, ho, hc⟩

theorem leb_GetRow_at (A : Option Addr) (c : Nat) (b : List UInt8) (p most : Int) (xs : List UInt8) (m e : Int) (w : World) (hb : b.length ≤ 140737488351232) (hc : b.length ≤ c) (hp : -9223372036854775808 ≤ p ∧ p ≤ 9223372036854775807) (hm : -9223372036854775808 ≤ most ∧ most ≤ 9223372036854775807) (hr : Rd w A (b.map bv)) (h : lebRow b p most = (xs, m, e)) :
    Calls Try.prog 83 #[.slice A b.length c, .int .i64 p, .int .i64 most] w fun e' w' => ∃ B, e' = .returned (.tuple #[.slice B xs.length xs.length, .int .i64 m, .int .i64 e]) ∧ App w' w.heap.size 5 1 (.slice B xs.length xs.length) xs.length (xs.map bv) ∧ Bl w w' := by
  refine (leb_GetRow A c b p most w hb hc hp hm hr).mono ?_
  rintro e' w' ⟨B, h1, h2, h3⟩
  rw [h] at h1 h2
  exact ⟨B, h1, h2, h3⟩
theorem lebRow_or (b : List UInt8) (p most : Int) : (∃ e : Int, lebRow b p most = ([], 0, e) ∧ e ≠ 0 ∧ 0 ≤ e ∧ e ≤ 13) ∨ ∃ xs : List UInt8, ∃ m : Nat, lebRow b p most = (xs, (m : Int), 0) ∧ (xs.length : Int) ≤ most ∧ m ≤ b.length ∧ xs.length ≤ b.length := by
  rcases lebCount_or b p most with ⟨e, h, he, h2⟩ | ⟨v, m, h, hgg, hv, hmost, hmm, _⟩
  · exact .inl ⟨e, by unfold lebRow; rw [h]; simp [he], he, h2⟩
  · by_cases hl : (b.length : Int) - m < v
    · exact .inl ⟨4, by unfold lebRow; rw [h]; simp [hl], by omega, by omega, by omega⟩
    · refine .inr ⟨(b.drop m).take v, m + v, by unfold lebRow; rw [h]; simp [hl], ?_, by omega, ?_⟩
      · rw [List.length_take, List.length_drop]; omega
      · rw [List.length_take, List.length_drop]; omega

theorem rdr_row (R : Nat) (A : Option Addr) (c : Nat) (b : List UInt8) (p e0 most : Int) (w : World) (hb : b.length ≤ 140737488351232) (hcb : b.length ≤ c) (hp : Hid (-9223372036854775808 ≤ p ∧ p ≤ 9223372036854775807)) (hm : Hid (-9223372036854775808 ≤ most ∧ most ≤ 9223372036854775807)) (hr : Rd w A (b.map bv)) (hob : Ob w R 85 (rdrV A b.length c p e0)) :
    Calls Try.prog 64 #[.pointer (some ⟨R, 0, none⟩), .int .i64 most] w (RetRdRow (rdRow b p e0 most) b R A c w) := by
  have HR := Lib.hid hr
  have HO := Lib.hid hob
  have c0 := hob.cell 0 rfl
  have c1 := hob.cell 1 rfl
  have c2 := hob.cell 2 rfl
  clear hr hob
  by_cases he : e0 = 0
  · subst he
    have hnum : rdRow b p 0 most = if (lebRow b p most).2.2 = 0 then lebRow b p most else ([], p, (lebRow b p most).2.2) := by unfold rdRow; rw [if_neg (by simp)]
    have hX : ∃ (xs : List UInt8) (m e : Int), lebRow b p most = (xs, m, e) ∧ (e ≠ 0 → xs = []) := by
      rcases lebRow_or b p most with ⟨e, h, _⟩ | ⟨xs, m, h, _⟩
      · exact ⟨[], 0, e, h, fun _ => rfl⟩
      · exact ⟨xs, m, 0, h, fun h => absurd rfl h⟩
    obtain ⟨xs, m, e, h, hnil⟩ := hX
    have H := Lib.hid h
    by_cases hne : e = 0
    · subst hne
      have HN := Lib.hid (show rdRow b p 0 most = (xs, m, 0) by rw [hnum, h, if_pos rfl])
      have HK : Hid (∀ w' : World, Bl w w' → w'.cell? ⟨R, 0, none⟩ = some (.slice A b.length c) ∧ w'.cell? ⟨R, 1, none⟩ = some (.int .i64 p) ∧ Bl w w') := fun w' h => ⟨h.cellAt c0, h.cellAt c1, h⟩
      clear h hnum hnil
      go_enter Try.func64, Try.ntmps64
      go_wp2_with fail
      go_region_held3 (fun w' => w'.cell? ⟨R, 0, none⟩ = some (.slice A b.length c) ∧ w'.cell? ⟨R, 1, none⟩ = some (.int .i64 p) ∧ Bl w w')
        (exact HK.out _ (by (focus ((repeat (first | with_reducible assumption | exact Bl.refl _ | refine Bl.drew ?_ | refine Bl.drewN ?_ _ | refine Bl.alloc ?_ _ | (refine Bl.trans ?_ (by with_reducible assumption)))); done))))
        (first | (go_at_call 83; refine (leb_GetRow_at A c b p most _ _ _ _ hb hcb hp.out hm.out (HR.out.dr ⟨1, rfl⟩) H.out).mono ?_; rintro e' w1 ⟨B, rfl, hown, hbl⟩))
      have hb1 : Bl w w1 := Bl.trans (Bl.drew (Bl.refl w)) hbl
      have hO := HO.out.bl hb1
      have f1 := hO.free 1
      have f2 := hO.free 2
      have d0 := hO.cell 0 rfl
      have d1 := hO.cell 1 rfl
      have d2 := hO.cell 2 rfl
      have HO1 := Lib.hid hO
      have HOW := Lib.hid hown
      have HB1 := Lib.hid hb1
      clear c0 c1 c2 hO hown hbl hb1
      go_wp2_with fail
      go_ret
      refine RetRdRow.mk HN.out rfl (App.ch ((HOW.out).mono (by simp)) (Ch.same (Ch.put w1 R 2 (.int .i64 0)) (Ch.put _ R 1 (.int .i64 m))) ?_) (Ob.set (Ob.set HO1.out 2 (.int .i64 0)) 1 (.int .i64 m)) (Ch.same (Ch.same (HB1.out.ch [R]) (Ch.put _ R 2 _)) (Ch.put _ R 1 _))
      intro g hg
      simp at hg
      subst hg
      exact HO1.out.app HOW.out (by decide)
    · have HN := Lib.hid (show rdRow b p 0 most = ([], p, e) by rw [hnum, h, if_neg hne])
      have HK : Hid (∀ w' : World, Bl w w' → w'.cell? ⟨R, 0, none⟩ = some (.slice A b.length c) ∧ w'.cell? ⟨R, 1, none⟩ = some (.int .i64 p) ∧ Bl w w') := fun w' h => ⟨h.cellAt c0, h.cellAt c1, h⟩
      have he1 : (e == 0) = false := by simpa using hne
      obtain rfl : xs = [] := hnil hne
      clear h hnum hnil hne
      go_enter Try.func64, Try.ntmps64
      go_wp2_with fail
      go_region_held3 (fun w' => w'.cell? ⟨R, 0, none⟩ = some (.slice A b.length c) ∧ w'.cell? ⟨R, 1, none⟩ = some (.int .i64 p) ∧ Bl w w')
        (exact HK.out _ (by (focus ((repeat (first | with_reducible assumption | exact Bl.refl _ | refine Bl.drew ?_ | refine Bl.drewN ?_ _ | refine Bl.alloc ?_ _ | (refine Bl.trans ?_ (by with_reducible assumption)))); done))))
        (first | (go_at_call 83; refine (leb_GetRow_at A c b p most _ _ _ _ hb hcb hp.out hm.out (HR.out.dr ⟨1, rfl⟩) H.out).mono ?_; rintro e' w1 ⟨B, rfl, hown, hbl⟩))
      have hb1 : Bl w w1 := Bl.trans (Bl.drew (Bl.refl w)) hbl
      have hO := HO.out.bl hb1
      have f1 := hO.free 1
      have f2 := hO.free 2
      have d0 := hO.cell 0 rfl
      have d1 := hO.cell 1 rfl
      have d2 := hO.cell 2 rfl
      have HO1 := Lib.hid hO
      have HOW := Lib.hid hown
      have HB1 := Lib.hid hb1
      clear c0 c1 c2 hO hown hbl hb1
      go_wp2_with fail
      go_ret
      refine RetRdRow.mk HN.out rfl (App.ch ((HOW.out).mono (by simp)) (Ch.put w1 R 2 (.int .i64 e)) ?_) (Ob.set HO1.out 2 (.int .i64 e)) (Ch.same (HB1.out.ch [R]) (Ch.put _ R 2 _))
      intro g hg
      simp at hg
      subst hg
      exact HO1.out.app HOW.out (by decide)
  · have HN := Lib.hid (show rdRow b p e0 most = ([], p, e0) by unfold rdRow; rw [if_pos he])
    have he1 : (e0 != 0) = true := by simpa using he
    clear he
    go_enter Try.func64, Try.ntmps64
    go_wp2_with fail
    go_ret
    exact RetRdRow.mk HN.out rfl (App.nil _ _ _ _) HO.out (Ch.refl _ _)

/-- What deed.Get takes off: two numbers and a row, a place, an error. -/
structure Took where
  id : Int
  n : Int
  row : List UInt8
  p : Int
  e : Int
def took (b : List UInt8) (p e most : Int) : Took :=
  let a := rdNum b p e
  let c := rdNum b a.2.1 a.2.2
  let r := rdRow b c.2.1 c.2.2 most
  ⟨a.1, c.1, r.1, r.2.1, r.2.2⟩
theorem rdNum_place (b : List UInt8) (p e : Int) (hp : -9223372036854775808 ≤ p ∧ p ≤ 9223372036854775807) (hb : b.length ≤ 140737488351232) : -9223372036854775808 ≤ (rdNum b p e).2.1 ∧ (rdNum b p e).2.1 ≤ 9223372036854775807 := by
  unfold rdNum
  split
  · exact hp
  · rcases lebGet_or b p with ⟨f, h, hf, _⟩ | ⟨v, m, h, _, hm, _⟩
    · rw [h, if_neg hf]; exact hp
    · rw [h, if_pos rfl]; simp only; omega
def RetTook (t : Took) (b : List UInt8) (R : Nat) (A : Option Addr) (c : Nat) (w : World) (e : Ending) (w' : World) : Prop :=
  ∃ B, e = .returned (.tuple #[.int .u64 t.id, .int .u64 t.n, .slice B t.row.length t.row.length]) ∧ App w' w.heap.size 5 1 (.slice B t.row.length t.row.length) t.row.length (t.row.map bv) ∧ Ob w' R 85 (rdrV A b.length c t.p t.e) ∧ Ch [R] w w'

theorem deed_Get1 (V R : Nat) (A : Option Addr) (c : Nat) (b : List UInt8) (p e0 : Int) (w : World) (hb : b.length ≤ 140737488351232) (hcb : b.length ≤ c) (hp : Hid (-9223372036854775808 ≤ p ∧ p ≤ 9223372036854775807)) (hr : Rd w A (b.map bv)) (hAR : ∀ a, A = some a → a.block ≠ R) (hVR : V ≠ R)
    (hv : Ob w V 83 #[.pointer (some ⟨R, 0, none⟩)]) (hob : Ob w R 85 (rdrV A b.length c p e0)) :
    Calls Try.prog 62 #[.pointer (some ⟨V, 0, none⟩)] w (RetTook (took b p e0 65504) b R A c w) := by
  have HR := Lib.hid hr
  have HO := Lib.hid hob
  have HV := Lib.hid hv
  have HAR := Lib.hid (show ∀ a, A = some a → a.block ∉ [R] from fun a ha => by simpa using hAR a ha)
  have HVR := Lib.hid (show V ∉ [R] by simpa using hVR)
  have v0 := hv.cell 0 rfl
  clear hr hob hv hAR hVR
  go_enter Try.func62, Try.ntmps62
  go_wp2_with fail
  refine (rdr_number R A c b p e0 w hb hp HR.out HO.out).mono ?_
  rintro e w1 ⟨rfl, ho1, hc1⟩
  have HC1 := Lib.hid hc1
  have HO1 := Lib.hid ho1
  have v1 := (HV.out.ch hc1 HVR.out).cell 0 rfl
  have HP1 := Lib.hid (rdNum_place b p e0 hp.out hb)
  clear hc1 ho1 v0
  go_wp2_with fail
  refine (rdr_number R A c b _ _ w1 hb HP1 (HR.out.ch HC1.out HAR.out) HO1.out).mono ?_
  rintro e w2 ⟨rfl, ho2, hc2⟩
  have HC2 := Lib.hid (HC1.out.same hc2)
  have HO2 := Lib.hid ho2
  have v2 := (HV.out.ch HC2.out HVR.out).cell 0 rfl
  have HP2 := Lib.hid (rdNum_place b _ (rdNum b p e0).2.2 HP1.out hb)
  clear hc2 ho2 v1 HO1
  go_wp2_with fail
  refine (rdr_row R A c b _ _ 65504 w2 hb hcb HP2 (by unfold Hid; omega) (HR.out.ch HC2.out HAR.out) HO2.out).mono ?_
  rintro e w3 ⟨B, rfl, hown, ho3, hc3⟩
  have HC3 := Lib.hid (HC2.out.same hc3)
  have HOW := Lib.hid (hown.mono HC2.out.size)
  have HO3 := Lib.hid ho3
  clear hc3 ho3 hown v2
  go_wp2_with fail
  go_ret3
  exact ⟨B, rfl, HOW.out, HO3.out, HC3.out⟩
end Go.Proofs.Ytedmamchfgkkfaa
