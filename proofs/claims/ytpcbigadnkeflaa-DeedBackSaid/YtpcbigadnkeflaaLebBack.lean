/- The varints of layer 1: what is put is got, and what is got was put. No program in sight. -/
import Derived.Test.YtpcbigadnkeflaaLebSpec
namespace Go.Proofs.Ytpcbigadnkeflaa
open Go.RowKit

theorem lead_stop (k : Nat) (l : List UInt8) : lead k l < k → lead k l < l.length → (l.getD (lead k l) 0).toNat < 128 := by
  induction k generalizing l with
  | zero => intro h; omega
  | succ k ih =>
    cases l with
    | nil => intro _ h; simp at h
    | cons c l =>
      simp only [lead, List.length_cons]
      split
      · intro h1 h2; simp only [List.getD_cons_succ]; exact ih l (by omega) (by omega)
      · intro _ _; simp only [List.getD_cons_zero]; omega
theorem u8c (n : Nat) (h : n < 256) : n.toUInt8.toNat = n := u8_toNat n h
/-- What Put lays down. -/
theorem lebPut_form (n : Nat) : ∃ k, (lebPut n).length = k + 1 ∧ (∀ j, j < k → 128 ≤ ((lebPut n).getD j 0).toNat) ∧ ((lebPut n).getD k 0).toNat < 128 ∧ vval (lebPut n) = n ∧ (n ≠ 0 → ((lebPut n).getD k 0).toNat ≠ 0) ∧ (n < 128 → k = 0) := by
  induction n using Nat.strongRecOn with
  | _ n ih =>
    by_cases h : n < 128
    · rw [lebPut_small h]
      refine ⟨0, rfl, fun j hj => by omega, ?_, ?_, ?_, fun _ => rfl⟩
      · simp only [List.getD_cons_zero]; rw [u8c n (by omega)]; exact h
      · simp only [vval]; rw [u8c n (by omega)]; omega
      · intro h0; simp only [List.getD_cons_zero]; rw [u8c n (by omega)]; exact h0
    · obtain ⟨k, h1, h2, h3, h4, h5, _⟩ := ih (n / 128) (by omega)
      have hc : (n % 128 + 128).toUInt8.toNat = n % 128 + 128 := u8c _ (by omega)
      rw [lebPut_great h]
      refine ⟨k + 1, by rw [List.length_cons, h1], fun j hj => ?_, ?_, ?_, fun h0 => ?_, fun h0 => absurd h0 h⟩
      · cases j with
        | zero => simp only [List.getD_cons_zero]; rw [hc]; omega
        | succ j => simp only [List.getD_cons_succ]; exact h2 j (by omega)
      · simp only [List.getD_cons_succ]; exact h3
      · simp only [vval]; rw [hc, h4]; omega
      · simp only [List.getD_cons_succ]; exact h5 (by omega)
theorem getD_app {l r : List UInt8} {j : Nat} (h : j < l.length) : (l ++ r).getD j 0 = l.getD j 0 := by
  simp [List.getD_eq_getElem?_getD, List.getElem?_append_left h]
theorem lebGet_put (pre post : List UInt8) (n : Nat) (hn : n < 2 ^ 64) : lebGet (pre ++ (lebPut n ++ post)) pre.length = ((n : Int), ((pre.length + (lebPut n).length : Nat) : Int), 0) := by
  obtain ⟨k, h1, h2, h3, h4, h5, h6⟩ := lebPut_form n
  have hk : k ≤ 9 := by have := (lebPut_ten hn).1; omega
  have hdrop : (pre ++ (lebPut n ++ post)).drop pre.length = lebPut n ++ post := List.drop_left
  have hlead : lead 9 (lebPut n ++ post) = k := by
    refine lead_eq 9 k _ hk (by rw [List.length_append]; omega) (fun j hj => ?_) (.inr (.inr ?_))
    · rw [getD_app (by omega)]; exact h2 j hj
    · rw [getD_app (by omega)]; exact h3
  have htake : (lebPut n ++ post).take (k + 1) = lebPut n := by rw [← h1]; exact List.take_left
  have hlast : (lebPut n ++ post).getD k 0 = (lebPut n).getD k 0 := getD_app (by omega)
  unfold lebGet
  rw [if_neg (by simp only [List.length_append]; omega)]
  simp only [Int.toNat_natCast, hdrop, hlead, hlast, htake, h4]
  rw [if_neg (by rw [List.length_append]; omega), if_neg]
  · rw [h1]; simp only [Prod.mk.injEq, and_true, true_and]; omega
  · rintro (⟨hk9, hl⟩ | ⟨hk0, hl⟩)
    · subst hk9
      have ht := vval_take_succ (lebPut n) 9 (by omega)
      rw [List.take_of_length_le (by omega), h4] at ht
      have : 128 ^ 9 * 2 ≤ 128 ^ 9 * (((lebPut n).getD 9 0).toNat % 128) := Nat.mul_le_mul_left _ (by omega)
      have h64 : (2 : Nat) ^ 64 = 128 ^ 9 * 2 := by decide
      omega
    · refine h5 (fun h0 => ?_) hl
      have := h6 (by omega)
      omega
/-- Bytes that Get takes are what Put lays down of their value. -/
theorem lebPut_vval (l : List UInt8) : ∀ (k : Nat), l.length = k + 1 → (∀ j, j < k → 128 ≤ (l.getD j 0).toNat) → (l.getD k 0).toNat < 128 → (0 < k → (l.getD k 0).toNat ≠ 0) → lebPut (vval l) = l := by
  induction l with
  | nil => intro k h; simp at h
  | cons c r ih =>
    intro k h1 h2 h3 h4
    have hc := c.toNat_lt
    have hcu : c.toNat.toUInt8 = c := by apply UInt8.toNat_inj.1; rw [u8c _ (by omega)]
    cases k with
    | zero =>
      have hr : r = [] := List.eq_nil_of_length_eq_zero (by simpa using h1)
      subst hr
      simp only [List.getD_cons_zero] at h3
      simp only [vval]
      rw [show c.toNat % 128 + 128 * 0 = c.toNat by omega, lebPut_small h3, hcu]
    | succ k =>
      have hr := ih k (by simpa using h1) (fun j hj => by simpa using h2 (j + 1) (by omega)) (by simpa using h3) (fun _ => by simpa using h4 (by omega))
      have hc0 : 128 ≤ c.toNat := by simpa using h2 0 (by omega)
      have hne : vval r ≠ 0 := by
        intro h0
        rw [h0, lebPut_small (by omega)] at hr
        have h5 := h4 (by omega)
        simp only [List.getD_cons_succ] at h5
        rw [← hr] at h1 h5
        simp at h1
        subst h1
        exact h5 (by simp)
      have hge : ¬ vval (c :: r) < 128 := by simp only [vval]; omega
      rw [lebPut_great hge]
      simp only [vval]
      rw [show (c.toNat % 128 + 128 * vval r) / 128 = vval r by omega, hr, show (c.toNat % 128 + 128 * vval r) % 128 + 128 = c.toNat by omega, hcu]
theorem lebGet_back {b : List UInt8} {p : Int} {v m : Nat} (h : lebGet b p = ((v : Int), (m : Int), 0)) : ∃ q : Nat, p = q ∧ q < m ∧ m ≤ b.length ∧ v < 2 ^ 64 ∧ b.drop q = lebPut v ++ b.drop m ∧ m = q + (lebPut v).length := by
  rcases lebGet_cases b p with ⟨e, h2, he⟩ | ⟨q, k, v2, rfl, h2, hk, hl, hv, hvv, hlead, hno⟩
  · rw [h] at h2
    simp only [Prod.mk.injEq] at h2
    omega
  · rw [h] at h2
    simp only [Prod.mk.injEq, and_true] at h2
    obtain ⟨e1, e2⟩ := h2
    obtain rfl : v = v2 := by omega
    obtain rfl : m = q + k + 1 := by omega
    have hdl : (b.drop q).length = b.length - q := List.length_drop
    have hlast : ((b.drop q).getD k 0).toNat < 128 := by
      rcases Nat.lt_or_ge k 9 with h9 | h9
      · have := lead_stop 9 (b.drop q)
        rw [hlead] at this
        exact this (by omega) (by omega)
      · have : k = 9 := by omega
        subst this
        have := fun h => hno (.inl ⟨rfl, h⟩)
        omega
    have hput : lebPut v = (b.drop q).take (k + 1) := by
      rw [hvv]
      refine lebPut_vval _ k (by rw [List.length_take]; omega) (fun j hj => ?_) ?_ (fun h0 => ?_)
      · have := lead_at 9 (b.drop q) j (by omega)
        simpa [List.getD_eq_getElem?_getD, List.getElem?_take, show j < k + 1 by omega] using this
      · simpa [List.getD_eq_getElem?_getD, List.getElem?_take] using hlast
      · have := fun h => hno (.inr ⟨h0, h⟩)
        simpa [List.getD_eq_getElem?_getD, List.getElem?_take] using this
    refine ⟨q, rfl, by omega, by omega, hv, ?_, ?_⟩
    · rw [hput, show q + k + 1 = q + (k + 1) by omega, ← List.drop_drop, List.take_append_drop]
    · rw [hput, List.length_take]; omega
end Go.Proofs.Ytpcbigadnkeflaa
