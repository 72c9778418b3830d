/- The rows and lists of layer 1: what is put is got, and what is got was put. No program in sight. -/
import Derived.Test.YtpcbigadnkeflaaLebBack
namespace Go.Proofs.Ytpcbigadnkeflaa
open Go.RowKit

theorem lebGet_put' {b pre post : List UInt8} {n : Nat} {p : Int} (hb : b = pre ++ (lebPut n ++ post)) (hp : p = (pre.length : Int)) (hn : n < 2 ^ 64) : lebGet b p = ((n : Int), ((pre.length + (lebPut n).length : Nat) : Int), 0) := by
  subst hb hp; exact lebGet_put pre post n hn
theorem lebRow_put {b pre post r : List UInt8} {p most : Int} (hb : b = pre ++ (lebRowPut r ++ post)) (hp : p = (pre.length : Int)) (hr : r.length < 2 ^ 64) (hm : (r.length : Int) ≤ most) : lebRow b p most = (r, ((pre.length + (lebRowPut r).length : Nat) : Int), 0) := by
  have hg := lebGet_put' (b := b) (pre := pre) (post := r ++ post) (n := r.length) (p := p) (by rw [hb, lebRowPut, List.append_assoc]) hp hr
  have hc : lebCount b p most = ((r.length : Int), ((pre.length + (lebPut r.length).length : Nat) : Int), 0) := by
    unfold lebCount; rw [hg, if_neg (by simp), if_neg (by simp only; omega)]
  have hlen : b.length = pre.length + ((lebPut r.length).length + (r.length + post.length)) := by rw [hb, lebRowPut]; simp only [List.length_append]; omega
  have hdrop : b.drop (pre.length + (lebPut r.length).length) = r ++ post := by
    rw [hb, lebRowPut, List.append_assoc, ← List.append_assoc, ← List.length_append]; exact List.drop_left
  unfold lebRow
  rw [hc, if_neg (by simp), if_neg (by simp only; omega)]
  simp only [Int.toNat_natCast, hdrop, List.take_left', lebRowPut, List.length_append]
  simp only [Prod.mk.injEq, and_true, true_and]
  omega
theorem lebRow_back {b xs : List UInt8} {p m most : Int} (h : lebRow b p most = (xs, m, 0)) : ∃ q k : Nat, p = q ∧ m = k ∧ q < k ∧ k ≤ b.length ∧ b.drop q = lebRowPut xs ++ b.drop k ∧ k = q + (lebRowPut xs).length ∧ (xs.length : Int) ≤ most := by
  rcases lebCount_or b p most with ⟨e, hc, he, _⟩ | ⟨v, m1, hc, hg, hv, hmost, hmm, _⟩
  · unfold lebRow at h
    rw [hc] at h
    simp [he] at h
  · unfold lebRow at h
    rw [hc, if_neg (by simp)] at h
    simp only at h
    split at h
    · simp at h
    · rename_i hl
      simp only [Int.toNat_natCast, Prod.mk.injEq, and_true] at h
      obtain ⟨hx, rfl⟩ := h
      obtain ⟨q, rfl, hqm, _, _, hd, hmq⟩ := lebGet_back hg
      have hxl : xs.length = v := by rw [← hx, List.length_take, List.length_drop]; omega
      refine ⟨q, m1 + v, rfl, by omega, by omega, by omega, ?_, ?_, by omega⟩
      · rw [hd, lebRowPut, hxl, List.append_assoc, ← List.drop_drop, ← hx, List.take_append_drop]
      · rw [lebRowPut, List.length_append, hxl]; omega
theorem lebNums_put (ns : List Nat) : ∀ (b pre post : List UInt8) (acc : List Nat), b = pre ++ (lebAll ns ++ post) → (∀ n ∈ ns, n < 2 ^ 64) → lebNums b ns.length (pre.length : Int) acc = (acc ++ ns, ((pre.length + (lebAll ns).length : Nat) : Int), 0) := by
  induction ns with
  | nil => intro b pre post acc hb _; simp [lebNums, lebAll]
  | cons n ns ih =>
    intro b pre post acc hb h64
    have hg := lebGet_put' (b := b) (pre := pre) (post := lebAll ns ++ post) (n := n) (p := (pre.length : Int)) (by rw [hb, lebAll_cons, List.append_assoc]) rfl (h64 n (by simp))
    have h2 := ih b (pre ++ lebPut n) post (acc ++ [n]) (by rw [hb, lebAll_cons]; simp) (fun x hx => h64 x (by simp [hx]))
    rw [List.length_cons, lebNums, hg, if_neg (by simp)]
    simp only [Int.toNat_natCast]
    rw [List.length_append] at h2
    rw [h2, lebAll_cons]
    simp only [List.length_append, List.append_assoc, List.singleton_append, Prod.mk.injEq, and_true, true_and]
    omega
theorem lebNums_back (k : Nat) : ∀ (b : List UInt8) (q : Nat) (acc xs : List Nat) (m : Int), q ≤ b.length → lebNums b k (q : Int) acc = (xs, m, 0) → ∃ (ns : List Nat) (j : Nat), xs = acc ++ ns ∧ ns.length = k ∧ m = j ∧ j ≤ b.length ∧ b.drop q = lebAll ns ++ b.drop j ∧ j = q + (lebAll ns).length := by
  induction k with
  | zero =>
    intro b q acc xs m hq h
    simp only [lebNums, Prod.mk.injEq, and_true] at h
    obtain ⟨rfl, rfl⟩ := h
    exact ⟨[], q, by simp, rfl, rfl, hq, by simp [lebAll], by simp [lebAll]⟩
  | succ k ih =>
    intro b q acc xs m hq h
    rcases lebGet_or b q with ⟨e, hg, he, _⟩ | ⟨v, m1, hg, hv, hm, _⟩
    · rw [lebNums, hg] at h; simp [he] at h
    · rw [lebNums, hg, if_neg (by simp)] at h
      simp only [Int.toNat_natCast] at h
      obtain ⟨q2, hq2, hqm, _, _, hd, hmq⟩ := lebGet_back hg
      obtain rfl : q = q2 := by omega
      obtain ⟨ns, j, rfl, hl, rfl, hj, hd2, hjm⟩ := ih b m1 _ _ _ hm h
      refine ⟨v :: ns, j, by simp, by simp [hl], rfl, hj, ?_, ?_⟩
      · rw [hd, hd2, lebAll_cons, List.append_assoc]
      · rw [lebAll_cons, List.length_append]; omega
theorem lebList_put {b pre post : List UInt8} {l : List Nat} {p most : Int} (hb : b = pre ++ (lebListPut l ++ post)) (hp : p = (pre.length : Int)) (hl : l.length < 2 ^ 64) (h64 : ∀ n ∈ l, n < 2 ^ 64) (hm : (l.length : Int) ≤ most) : lebList b p most = (l, ((pre.length + (lebListPut l).length : Nat) : Int), 0) := by
  have hg := lebGet_put' (b := b) (pre := pre) (post := lebAll l ++ post) (n := l.length) (p := p) (by rw [hb, lebListPut, List.append_assoc]) hp hl
  have hc : lebCount b p most = ((l.length : Int), ((pre.length + (lebPut l.length).length : Nat) : Int), 0) := by
    unfold lebCount; rw [hg, if_neg (by simp), if_neg (by simp only; omega)]
  have h2 := lebNums_put l b (pre ++ lebPut l.length) post [] (by rw [hb, lebListPut]; simp) h64
  rw [List.length_append] at h2
  unfold lebList
  rw [hc, if_neg (by simp)]
  simp only [Int.toNat_natCast]
  rw [h2, lebListPut]
  simp only [List.length_append, List.nil_append, Prod.mk.injEq, and_true, true_and]
  omega
theorem lebList_back {b : List UInt8} {xs : List Nat} {p m most : Int} (h : lebList b p most = (xs, m, 0)) : ∃ q k : Nat, p = q ∧ m = k ∧ q < k ∧ k ≤ b.length ∧ b.drop q = lebListPut xs ++ b.drop k ∧ k = q + (lebListPut xs).length ∧ (xs.length : Int) ≤ most := by
  rcases lebCount_or b p most with ⟨e, hc, he, _⟩ | ⟨v, m1, hc, hg, hv, hmost, hmm, _⟩
  · unfold lebList at h
    rw [hc] at h
    simp [he] at h
  · unfold lebList at h
    rw [hc, if_neg (by simp)] at h
    simp only [Int.toNat_natCast] at h
    obtain ⟨q, rfl, hqm, _, _, hd, hmq⟩ := lebGet_back hg
    obtain ⟨ns, j, hx, hl, rfl, hj, hd2, hjm⟩ := lebNums_back v b m1 [] xs m hmm h
    rw [List.nil_append] at hx
    subst hx
    refine ⟨q, j, rfl, rfl, by omega, hj, ?_, ?_, by omega⟩
    · rw [hd, hd2, lebListPut, hl, List.append_assoc]
    · rw [lebListPut, List.length_append, hl]; omega
end Go.Proofs.Ytpcbigadnkeflaa
