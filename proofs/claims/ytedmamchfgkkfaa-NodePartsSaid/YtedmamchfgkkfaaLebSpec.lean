/- The varints of layer 1 as plain functions on lists of bytes, and what they obey. No program in sight. -/
import Derived.Test.YtedmamchfgkkfaaLib
import Derived.Laws.BitsLemmas
import Derived.Laws.BitsAllLaws
namespace Go.Proofs.Ytedmamchfgkkfaa
open Go.RowKit

def bv (b : UInt8) : Value := .int .u8 b.toNat
def wv (n : Nat) : Value := .int .u64 n
def iv (n : Int) : Value := .int .i64 n
def sv (s : ByteArray) : Value := .string s
theorem bv_one (xs : List UInt8) : ∀ u ∈ xs.map bv, u.oneCell' = true := by intro u hu; obtain ⟨q, _, rfl⟩ := List.mem_map.1 hu; rfl
theorem wv_one (xs : List Nat) : ∀ u ∈ xs.map wv, u.oneCell' = true := by intro u hu; obtain ⟨q, _, rfl⟩ := List.mem_map.1 hu; rfl
theorem iv_one (xs : List Int) : ∀ u ∈ xs.map iv, u.oneCell' = true := by intro u hu; obtain ⟨q, _, rfl⟩ := List.mem_map.1 hu; rfl
theorem sv_one (xs : List ByteArray) : ∀ u ∈ xs.map sv, u.oneCell' = true := by intro u hu; obtain ⟨q, _, rfl⟩ := List.mem_map.1 hu; rfl

/-- How many of the first k bytes have the top bit, up to the first that has not. -/
def lead : Nat → List UInt8 → Nat
  | 0, _ => 0
  | _ + 1, [] => 0
  | k + 1, c :: l => if 128 ≤ c.toNat then lead k l + 1 else 0
def vval : List UInt8 → Nat
  | [] => 0
  | c :: l => c.toNat % 128 + 128 * vval l
def lebPut (n : Nat) : List UInt8 := if h : n < 128 then [n.toUInt8] else (n % 128 + 128).toUInt8 :: lebPut (n / 128)
termination_by n
decreasing_by omega
def lebGet (b : List UInt8) (p : Int) : Int × Int × Int :=
  if p < 0 ∨ (b.length : Int) < p then (0, 0, 2) else
  let l := b.drop p.toNat
  let n := lead 9 l
  if n = l.length then (0, 0, 4) else
  let last := (l.getD n 0).toNat
  if (n = 9 ∧ 1 < last) ∨ (0 < n ∧ last = 0) then (0, 0, 5) else (vval (l.take (n + 1)), p + n + 1, 0)

theorem lead_le (k : Nat) (l : List UInt8) : lead k l ≤ k ∧ lead k l ≤ l.length := by
  induction k generalizing l with
  | zero => simp [lead]
  | succ k ih =>
    cases l with
    | nil => simp [lead]
    | cons c l => have := ih l; simp only [lead, List.length_cons]; split <;> omega
theorem lead_at (k : Nat) (l : List UInt8) : ∀ j, j < lead k l → 128 ≤ (l.getD j 0).toNat := by
  induction k generalizing l with
  | zero => intro j hj; simp [lead] at hj
  | succ k ih =>
    cases l with
    | nil => intro j hj; simp [lead] at hj
    | cons c l =>
      intro j hj
      simp only [lead] at hj
      split at hj
      · cases j with
        | zero => simpa
        | succ j => simpa using ih l j (by omega)
      · omega
/-- What stands at the first without the top bit. -/
theorem lead_eq (k m : Nat) (l : List UInt8) (hm : m ≤ k) (hl : m ≤ l.length) (h : ∀ j, j < m → 128 ≤ (l.getD j 0).toNat) (he : m = k ∨ m = l.length ∨ (l.getD m 0).toNat < 128) : lead k l = m := by
  induction k generalizing l m with
  | zero => simp [lead]; omega
  | succ k ih =>
    cases l with
    | nil => simp [lead] at hl ⊢; omega
    | cons c l =>
      cases m with
      | zero =>
        rcases he with he | he | he
        · omega
        · simp at he
        · simp only [lead]; rw [if_neg (by simpa using he)]
      | succ m =>
        have h0 := h 0 (by omega)
        simp only [List.getD_cons_zero] at h0
        simp only [lead]
        rw [if_pos h0, ih m l (by omega) (by simpa using hl) (fun j hj => by simpa using h (j + 1) (by omega)) (by simpa using he)]
theorem vval_append (xs ys : List UInt8) : vval (xs ++ ys) = vval xs + 128 ^ xs.length * vval ys := by
  induction xs with
  | nil => simp [vval]
  | cons c l ih => simp only [List.cons_append, vval, ih, List.length_cons]; rw [Nat.pow_succ, Nat.mul_add, Nat.mul_comm (128 ^ l.length) 128, Nat.mul_assoc]; omega
theorem vval_lt (xs : List UInt8) : vval xs < 128 ^ xs.length := by
  induction xs with
  | nil => simp [vval]
  | cons c l ih => simp only [vval, List.length_cons, Nat.pow_succ]; omega
theorem vval_take_succ (l : List UInt8) (k : Nat) (hk : k < l.length) : vval (l.take (k + 1)) = vval (l.take k) + 128 ^ k * ((l.getD k 0).toNat % 128) := by
  have : l.take (k + 1) = l.take k ++ [l.getD k 0] := by
    rw [List.take_succ_eq_append_getElem hk]; simp [List.getElem?_eq_getElem hk]
  rw [this, vval_append, List.length_take, Nat.min_eq_left (by omega)]
  simp [vval]
theorem vval_take_lt (l : List UInt8) (k : Nat) : vval (l.take k) < 128 ^ k :=
  Nat.lt_of_lt_of_le (vval_lt _) (Nat.pow_le_pow_right (by decide) (List.length_take_le _ _))
/-- v | c << 7k of 64 bits, where v has less than 7k bits. -/
theorem or_shift (v : Nat) (x : UInt8) (k : Nat) (hk : k ≤ 9) (hv : v < 128 ^ k) (h9 : k = 9 → x.toNat % 128 ≤ 1) :
    bits .or .u64 (v : Int) (IntKind.u64.wrap (IntKind.u64.wrap (bits .and .u8 (x.toNat : Int) 127) * 2 ^ (7 * k))) = ((v + 128 ^ k * (x.toNat % 128) : Nat) : Int) := by
  have hp : (128 : Nat) ^ k = 2 ^ (7 * k) := by rw [show (128 : Nat) = 2 ^ 7 from rfl, ← Nat.pow_mul]
  have hx := x.toNat_lt
  have e0 : bits .and .u8 (x.toNat : Int) 127 = ((x.toNat % 128 : Nat) : Int) := by
    have := u8_and_nat x.toNat 127 (by omega) (by decide)
    rw [show ((127 : Nat) : Int) = 127 from rfl] at this
    rw [this, show (127 : Nat) = 2 ^ 7 - 1 from rfl, Nat.and_two_pow_sub_one_eq_mod]
  rw [e0]
  generalize hc : x.toNat % 128 = c at *
  have hc128 : c < 128 := by omega
  have hcb : c * 2 ^ (7 * k) < 2 ^ 64 := by
    rcases Nat.lt_or_ge k 9 with h | h
    · have h1 : (2 : Nat) ^ (7 * k) ≤ 2 ^ 56 := Nat.pow_le_pow_right (by decide) (by omega)
      have h2 : c * 2 ^ (7 * k) ≤ 127 * 2 ^ 56 := Nat.mul_le_mul (by omega) h1
      omega
    · have : k = 9 := by omega
      subst this
      have := h9 rfl
      omega
  have hvb : v < 2 ^ 64 := by
    have h1 : (2 : Nat) ^ (7 * k) ≤ 2 ^ 63 := Nat.pow_le_pow_right (by decide) (by omega)
    omega
  have e1 : IntKind.u64.wrap (IntKind.u64.wrap ((c : Nat) : Int) * 2 ^ (7 * k)) = ((c * 2 ^ (7 * k) : Nat) : Int) := by
    rw [IntWalk.u64_in (c : Int) (by omega)]
    have : ((c : Int) * 2 ^ (7 * k)) = ((c * 2 ^ (7 * k) : Nat) : Int) := by rw [Int.natCast_mul, Int.natCast_pow]; rfl
    rw [this]
    exact IntWalk.u64_in _ (by omega)
  rw [e1, u64_or_nat v (c * 2 ^ (7 * k)) (by omega) (by omega)]
  congr 1
  rw [hp] at hv ⊢
  rw [Nat.mul_comm c, Nat.or_comm, Nat.add_comm v]
  exact (Nat.two_pow_add_eq_or_of_lt hv c).symm
/-- What Get's loop has found at its end. -/
theorem lebGet_out {b : List UInt8} {q k : Nat} {x : UInt8} (hk : k ≤ 9) (hb : b[q + k]? = some x) (h : ∀ j, j < k → 128 ≤ ((b.drop q).getD j 0).toNat) (hx : x.toNat < 128) :
    lebGet b q = (if (k = 9 ∧ 1 < x.toNat) ∨ (0 < k ∧ x.toNat = 0) then (0, 0, 5) else (((vval ((b.drop q).take (k + 1)) : Nat) : Int), (q : Int) + k + 1, 0) : Int × Int × Int) := by
  have hqk := (List.getElem?_eq_some_iff.1 hb).1
  have hd : (b.drop q).getD k 0 = x := by simp [List.getD_eq_getElem?_getD, List.getElem?_drop, hb]
  have hn : lead 9 (b.drop q) = k := lead_eq 9 k _ hk (by rw [List.length_drop]; omega) h (.inr (.inr (by rw [hd]; exact hx)))
  unfold lebGet
  rw [if_neg (by omega)]
  simp only [Int.toNat_natCast]
  rw [hn, if_neg (by rw [List.length_drop]; omega), hd]
theorem lebGet_short {b : List UInt8} {q k : Nat} (hk : k ≤ 9) (hqk : q + k = b.length) (h : ∀ j, j < k → 128 ≤ ((b.drop q).getD j 0).toNat) : lebGet b q = (0, 0, 4) := by
  have hn : lead 9 (b.drop q) = k := lead_eq 9 k _ hk (by rw [List.length_drop]; omega) h (.inr (.inl (by rw [List.length_drop]; omega)))
  unfold lebGet
  rw [if_neg (by omega)]
  simp only [Int.toNat_natCast]
  rw [hn, if_pos (by rw [List.length_drop]; omega)]
theorem lebGet_ten {b : List UInt8} {q : Nat} (hqk : q + 10 ≤ b.length) (h : ∀ j, j < 10 → 128 ≤ ((b.drop q).getD j 0).toNat) : lebGet b q = (0, 0, 5) := by
  have hn : lead 9 (b.drop q) = 9 := lead_eq 9 9 _ (Nat.le_refl _) (by rw [List.length_drop]; omega) (fun j hj => h j (by omega)) (.inl rfl)
  have h9 := h 9 (by omega)
  unfold lebGet
  rw [if_neg (by omega)]
  simp only [Int.toNat_natCast]
  rw [hn, if_neg (by rw [List.length_drop]; omega), if_pos (.inl ⟨rfl, by omega⟩)]
end Go.Proofs.Ytedmamchfgkkfaa
namespace Go.Proofs.Ytedmamchfgkkfaa
open Go.RowKit
def lebAll (ns : List Nat) : List UInt8 := ns.flatMap lebPut
theorem lebAll_cons (n : Nat) (ns : List Nat) : lebAll (n :: ns) = lebPut n ++ lebAll ns := by simp [lebAll]
theorem lebAll_snoc (ns : List Nat) (n : Nat) : lebAll (ns ++ [n]) = lebAll ns ++ lebPut n := by simp [lebAll]
theorem lebPut_small {n : Nat} (h : n < 128) : lebPut n = [n.toUInt8] := by rw [lebPut]; simp [h]
theorem lebPut_great {n : Nat} (h : ¬ n < 128) : lebPut n = (n % 128 + 128).toUInt8 :: lebPut (n / 128) := by rw [lebPut]; simp [h]
theorem lebPut_len (k : Nat) : ∀ n, n < 128 ^ (k + 1) → (lebPut n).length ≤ k + 1 ∧ 1 ≤ (lebPut n).length := by
  induction k with
  | zero => intro n h; rw [lebPut_small (by simpa using h)]; simp
  | succ k ih =>
    intro n h
    by_cases hn : n < 128
    · rw [lebPut_small hn]; simp
    · rw [lebPut_great hn]
      have := ih (n / 128) (by rw [Nat.div_lt_iff_lt_mul (by decide)]; rwa [Nat.pow_succ] at h)
      simp only [List.length_cons]
      omega
theorem lebPut_ten {n : Nat} (h : n < 2 ^ 64) : (lebPut n).length ≤ 10 ∧ 1 ≤ (lebPut n).length := lebPut_len 9 n (by omega)
theorem lebAll_ten {ns : List Nat} (h : ∀ n ∈ ns, n < 2 ^ 64) : (lebAll ns).length ≤ 10 * ns.length := by
  induction ns with
  | nil => simp [lebAll]
  | cons n ns ih =>
    have h1 := lebPut_ten (h n (by simp))
    have h2 := ih (fun m hm => h m (by simp [hm]))
    rw [lebAll_cons, List.length_append, List.length_cons]
    omega
theorem u8_toNat (n : Nat) (h : n < 256) : (n.toUInt8).toNat = n := by simp; omega
theorem or128 (n : Nat) (_h : n < 2 ^ 64) : bits .or .u8 (IntKind.u8.wrap (n : Int)) 128 = (((n % 128 + 128).toUInt8).toNat : Int) := by
  have e1 : IntKind.u8.wrap (n : Int) = ((n % 256 : Nat) : Int) := by rw [IntKind.wrap_u8]; omega
  rw [e1]
  have := u8_or_nat (n % 256) 128 (by omega) (by decide)
  rw [show ((128 : Nat) : Int) = 128 from rfl] at this
  rw [this, u8_toNat _ (by omega)]
  congr 1
  have h2 : n % 256 = n % 128 + 128 * (n / 128 % 2) := by omega
  have h3 : n / 128 % 2 = 0 ∨ n / 128 % 2 = 1 := by omega
  have h4 : n % 128 < 2 ^ 7 := by omega
  rcases h3 with h3 | h3
  · rw [h2, h3, Nat.mul_zero, Nat.add_zero, Nat.or_comm, show (128 : Nat) = 2 ^ 7 * 1 from rfl, ← Nat.two_pow_add_eq_or_of_lt h4 1, Nat.add_comm]
  · rw [h2, h3, Nat.mul_one]
    have e : n % 128 + 128 = 128 ||| n % 128 := by
      have := Nat.two_pow_add_eq_or_of_lt h4 1
      simpa [Nat.add_comm] using this
    have h5 : n % 128 ||| 128 = n % 128 + 128 := by rw [Nat.or_comm, e]
    rw [show n % 128 + 128 ||| 128 = (n % 128 ||| 128) ||| 128 by rw [h5], Nat.or_assoc, Nat.or_self, h5]
theorem wrap8 (n : Nat) (h : n < 128) : IntKind.u8.wrap (n : Int) = ((n.toUInt8).toNat : Int) := by
  rw [IntKind.wrap_u8, u8_toNat _ (by omega)]; omega
end Go.Proofs.Ytedmamchfgkkfaa
namespace Go.Proofs.Ytedmamchfgkkfaa
open Go.RowKit
def lebCount (b : List UInt8) (p most : Int) : Int × Int × Int :=
  if (lebGet b p).2.2 ≠ 0 then (0, 0, (lebGet b p).2.2) else if most < 0 ∨ most < (lebGet b p).1 then (0, 0, 3) else lebGet b p
def lebRow (b : List UInt8) (p most : Int) : List UInt8 × Int × Int :=
  if (lebCount b p most).2.2 ≠ 0 then ([], 0, (lebCount b p most).2.2)
  else if (b.length : Int) - (lebCount b p most).2.1 < (lebCount b p most).1 then ([], 0, 4)
  else ((b.drop (lebCount b p most).2.1.toNat).take (lebCount b p most).1.toNat, (lebCount b p most).2.1 + (lebCount b p most).1, 0)
def lebNums (b : List UInt8) : Nat → Int → List Nat → List Nat × Int × Int
  | 0, p, acc => (acc, p, 0)
  | k + 1, p, acc => if (lebGet b p).2.2 ≠ 0 then ([], 0, (lebGet b p).2.2) else lebNums b k (lebGet b p).2.1 (acc ++ [(lebGet b p).1.toNat])
def lebList (b : List UInt8) (p most : Int) : List Nat × Int × Int :=
  if (lebCount b p most).2.2 ≠ 0 then ([], 0, (lebCount b p most).2.2) else lebNums b (lebCount b p most).1.toNat (lebCount b p most).2.1 []
def lebRowPut (b : List UInt8) : List UInt8 := lebPut b.length ++ b
def lebListPut (l : List Nat) : List UInt8 := lebPut l.length ++ lebAll l
/-- What Get may answer. -/
theorem lebGet_cases (b : List UInt8) (p : Int) : (∃ e : Int, lebGet b p = (0, 0, e) ∧ (e = 2 ∨ e = 4 ∨ e = 5)) ∨
    ∃ q k v : Nat, p = q ∧ lebGet b p = ((v : Int), (q : Int) + k + 1, 0) ∧ k ≤ 9 ∧ q + k < b.length ∧ v < 2 ^ 64 ∧ v = vval ((b.drop q).take (k + 1)) ∧ lead 9 (b.drop q) = k ∧ ¬ ((k = 9 ∧ 1 < ((b.drop q).getD k 0).toNat) ∨ (0 < k ∧ ((b.drop q).getD k 0).toNat = 0)) := by
  unfold lebGet
  split
  · exact .inl ⟨2, rfl, .inl rfl⟩
  · rename_i h
    simp only
    split
    · exact .inl ⟨4, rfl, .inr (.inl rfl)⟩
    · rename_i h2
      split
      · exact .inl ⟨5, rfl, .inr (.inr rfl)⟩
      · rename_i h3
        have hl := lead_le 9 (b.drop p.toNat)
        rw [List.length_drop] at h2 hl
        refine .inr ⟨p.toNat, lead 9 (b.drop p.toNat), _, by omega, by rw [Int.toNat_of_nonneg (by omega)], hl.1, by omega, ?_, rfl, rfl, h3⟩
        have hlt : lead 9 (b.drop p.toNat) < (b.drop p.toNat).length := by rw [List.length_drop]; omega
        rw [vval_take_succ _ _ hlt]
        have h4 := vval_take_lt (b.drop p.toNat) (lead 9 (b.drop p.toNat))
        rcases Nat.lt_or_ge (lead 9 (b.drop p.toNat)) 9 with h5 | h5
        · have h6 : 128 ^ (lead 9 (b.drop p.toNat)) ≤ 128 ^ 8 := Nat.pow_le_pow_right (by decide) (by omega)
          have h7 : 128 ^ (lead 9 (b.drop p.toNat)) * (((b.drop p.toNat).getD (lead 9 (b.drop p.toNat)) 0).toNat % 128) ≤ 128 ^ 8 * 127 := Nat.mul_le_mul h6 (by omega)
          omega
        · have h8 : lead 9 (b.drop p.toNat) = 9 := by omega
          rw [h8] at h3 h4 ⊢
          have h9 : ((b.drop p.toNat).getD 9 0).toNat % 128 ≤ 1 := by omega
          have h7 : 128 ^ 9 * (((b.drop p.toNat).getD 9 0).toNat % 128) ≤ 128 ^ 9 * 1 := Nat.mul_le_mul_left _ h9
          omega
/-- The same in short: an error, or a number that fits and a place further on. -/
theorem lebGet_or (b : List UInt8) (p : Int) : (∃ e : Int, lebGet b p = (0, 0, e) ∧ e ≠ 0 ∧ 0 ≤ e ∧ e ≤ 13) ∨ ∃ v m : Nat, lebGet b p = ((v : Int), (m : Int), 0) ∧ v < 2 ^ 64 ∧ m ≤ b.length ∧ p < m ∧ 0 ≤ p := by
  rcases lebGet_cases b p with ⟨e, h, he⟩ | ⟨q, k, v, rfl, h, hk, hl, hv, _⟩
  · exact .inl ⟨e, h, by omega, by omega, by omega⟩
  · exact .inr ⟨v, q + k + 1, by rw [h]; simp, hv, by omega, by omega, by omega⟩
theorem lebCount_or (b : List UInt8) (p most : Int) : (∃ e : Int, lebCount b p most = (0, 0, e) ∧ e ≠ 0 ∧ 0 ≤ e ∧ e ≤ 13) ∨ ∃ v m : Nat, lebCount b p most = ((v : Int), (m : Int), 0) ∧ lebGet b p = ((v : Int), (m : Int), 0) ∧ v < 2 ^ 64 ∧ (v : Int) ≤ most ∧ m ≤ b.length ∧ p < m ∧ 0 ≤ p := by
  rcases lebGet_or b p with ⟨e, h, he, h2⟩ | ⟨v, m, h, hv, hm, hp, h0⟩
  · exact .inl ⟨e, by unfold lebCount; rw [h]; simp [he], he, h2⟩
  · by_cases hmost : most < 0 ∨ most < (v : Int)
    · exact .inl ⟨3, by unfold lebCount; rw [h]; simp [hmost], by omega, by omega, by omega⟩
    · exact .inr ⟨v, m, by unfold lebCount; rw [h]; simp [hmost], h, hv, by omega, hm, hp, h0⟩
end Go.Proofs.Ytedmamchfgkkfaa
namespace Go.Proofs.Ytedmamchfgkkfaa
open Go.RowKit
theorem lead_succ_of (l : List UInt8) (k n : Nat) (h : ∀ j, j < k → 128 ≤ (l.getD j 0).toNat) (hn : n = k) (hx : 128 ≤ (l.getD k 0).toNat) : ∀ j, j < n + 1 → 128 ≤ (l.getD j 0).toNat := by
  intro j hj
  rcases Nat.lt_or_ge j k with h2 | h2
  · exact h j h2
  · obtain rfl : j = k := by omega
    exact hx
/-- The digits from i on. -/
theorem vval_drop_take (l : List UInt8) (n i : Nat) (hi : i ≤ n) (hn : n < l.length) : vval ((l.drop i).take (n + 1 - i)) = (l.getD i 0).toNat % 128 + 128 * vval ((l.drop (i + 1)).take (n - i)) := by
  have hlt : i < l.length := by omega
  rw [List.drop_eq_getElem_cons hlt, show n + 1 - i = (n - i) + 1 by omega, List.take_succ_cons, vval]
  simp [List.getD_eq_getElem?_getD, List.getElem?_eq_getElem hlt]
theorem vval_bound (l : List UInt8) (n i : Nat) (hi : i ≤ n) (_hn : n < l.length) (hb : vval (l.take (n + 1)) < 2 ^ 64) : vval ((l.drop i).take (n + 1 - i)) < 2 ^ 64 := by
  have h1 : l.take (n + 1) = l.take i ++ (l.drop i).take (n + 1 - i) := by rw [← List.take_add]; congr 1; omega
  rw [h1, vval_append] at hb
  have h2 : 1 ≤ 128 ^ (l.take i).length := Nat.pow_pos (by decide)
  have h3 : 1 * vval ((l.drop i).take (n + 1 - i)) ≤ 128 ^ (l.take i).length * vval ((l.drop i).take (n + 1 - i)) := Nat.mul_le_mul_right _ h2
  omega
end Go.Proofs.Ytedmamchfgkkfaa
