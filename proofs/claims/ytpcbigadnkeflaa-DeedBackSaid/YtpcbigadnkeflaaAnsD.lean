/- Layer 22 (deed) walked: GetAnswer. -/
import Derived.Test.YtpcbigadnkeflaaAnsC
import Derived.Test.YtpcbigadnkeflaaDeedE
namespace Go.Proofs.Ytpcbigadnkeflaa
open Go.RowKit
set_option maxRecDepth 100000
set_option maxHeartbeats 2000000

structure AnsR where
  f : Int
  id : Int
  n : Int
  row : List UInt8
  ids : List Nat
  more : Bool
  e : Int
def ansNo (e : Int) : AnsR := ⟨0, 0, 0, [], [], false, e⟩
structure Took3 where
  f : Int
  id : Int
  n : Int
  row : List UInt8
  p : Int
  e : Int
def took3 (b : List UInt8) : Took3 :=
  let a := rdNum b 0 0
  let c := rdNum b a.2.1 a.2.2
  let d := rdNum b c.2.1 c.2.2
  let r := rdRow b d.2.1 d.2.2 65536
  ⟨a.1, c.1, d.1, r.1, r.2.1, r.2.2⟩
def ansGet (b : List UInt8) : AnsR :=
  if (took3 b).e ≠ 0 then ansNo (took3 b).e
  else if (lebList b (took3 b).p 65536).2.2 ≠ 0 then ansNo (lebList b (took3 b).p 65536).2.2
  else if (b.length : Int) ≤ (lebList b (took3 b).p 65536).2.1 then ansNo 4
  else if (lebList b (took3 b).p 65536).2.1 + 1 ≠ b.length ∨ 1 < (b.getD (lebList b (took3 b).p 65536).2.1.toNat 0).toNat ∨ 13 < (took3 b).f ∨ 9223372036854775807 < (took3 b).n then ansNo 5
  else ⟨(took3 b).f, (took3 b).id, (took3 b).n, (took3 b).row, (lebList b (took3 b).p 65536).1, (b.getD (lebList b (took3 b).p 65536).2.1.toNat 0).toNat == 1, 0⟩
theorem lebNums_or (b : List UInt8) (k : Nat) : ∀ (q : Nat) (acc : List Nat), q ≤ b.length → (∃ e : Int, lebNums b k q acc = ([], 0, e) ∧ e ≠ 0 ∧ 0 ≤ e ∧ e ≤ 13) ∨ ∃ (xs : List Nat) (m : Nat), lebNums b k q acc = (xs, (m : Int), 0) ∧ xs.length = acc.length + k ∧ m ≤ b.length ∧ ((∀ x ∈ acc, x < 18446744073709551616) → ∀ x ∈ xs, x < 18446744073709551616) := by
  induction k with
  | zero => intro q acc hq; exact .inr ⟨acc, q, rfl, by simp, hq, fun h => h⟩
  | succ k ih =>
    intro q acc hq
    rcases lebGet_or b q with ⟨e, h, he, h2⟩ | ⟨v, m, h, hv, hm, _⟩
    · exact .inl ⟨e, by rw [lebNums, h]; simp [he], he, h2⟩
    · rcases ih m (acc ++ [v]) hm with ⟨e, h3, h4⟩ | ⟨xs, m2, h3, h4, h5, h6⟩
      · exact .inl ⟨e, by rw [lebNums, h]; simpa using h3, h4⟩
      · refine .inr ⟨xs, m2, by rw [lebNums, h]; simpa using h3, by rw [h4, List.length_append]; simp; omega, h5, fun ha => h6 (fun x hx => ?_)⟩
        rcases List.mem_append.1 hx with hx | hx
        · exact ha x hx
        · simp at hx; subst hx; omega
theorem lebList_or (b : List UInt8) (p most : Int) : (∃ e : Int, lebList b p most = ([], 0, e) ∧ e ≠ 0 ∧ 0 ≤ e ∧ e ≤ 13) ∨ ∃ (xs : List Nat) (m : Nat), lebList b p most = (xs, (m : Int), 0) ∧ (xs.length : Int) ≤ most ∧ m ≤ b.length ∧ ∀ x ∈ xs, x < 18446744073709551616 := by
  rcases lebCount_or b p most with ⟨e, h, he, h2⟩ | ⟨v, m, h, hgg, hv, hmost, hmm, _⟩
  · exact .inl ⟨e, by unfold lebList; rw [h]; simp [he], he, h2⟩
  · rcases lebNums_or b v m [] hmm with ⟨e, h3, h4⟩ | ⟨xs, m2, h3, h4, h5, h6⟩
    · exact .inl ⟨e, by unfold lebList; rw [h]; simpa using h3, h4⟩
    · exact .inr ⟨xs, m2, by unfold lebList; rw [h]; simpa using h3, by rw [h4]; simpa using hmost, h5, h6 (fun x hx => by simp at hx)⟩
theorem took3_facts (b : List UInt8) (hb : b.length ≤ 140737488351232) : 0 ≤ (took3 b).f ∧ (took3 b).f < 18446744073709551616 ∧ 0 ≤ (took3 b).id ∧ (took3 b).id < 18446744073709551616 ∧ 0 ≤ (took3 b).n ∧ (took3 b).n < 18446744073709551616 ∧ (took3 b).row.length ≤ 65536 ∧ -9223372036854775808 ≤ (took3 b).p ∧ (took3 b).p ≤ 9223372036854775807 := by
  have key : ∀ q f, 0 ≤ (rdNum b q f).1 ∧ (rdNum b q f).1 < 18446744073709551616 := by
    intro q f
    unfold rdNum
    split
    · simp
    · rcases lebGet_or b q with ⟨g, h, hg, _⟩ | ⟨v, m, h, hv, _⟩
      · rw [h, if_neg hg]; simp
      · rw [h, if_pos rfl]; simp only; omega
  have key2 : ∀ q f, -9223372036854775808 ≤ q ∧ q ≤ 9223372036854775807 → (rdRow b q f 65536).1.length ≤ 65536 ∧ -9223372036854775808 ≤ (rdRow b q f 65536).2.1 ∧ (rdRow b q f 65536).2.1 ≤ 9223372036854775807 := by
    intro q f hq
    unfold rdRow
    split
    · simp; omega
    · rcases lebRow_or b q 65536 with ⟨g, h, hg, _⟩ | ⟨xs, m, h, h1, h2, h3⟩
      · rw [h, if_neg hg]; simp; omega
      · rw [h, if_pos rfl]; simp only; omega
  have h1 := key 0 0
  have h2 := key (rdNum b 0 0).2.1 (rdNum b 0 0).2.2
  have p1 := rdNum_place b 0 0 (by omega) hb
  have p2 := rdNum_place b _ (rdNum b 0 0).2.2 p1 hb
  have h3 := key (rdNum b (rdNum b 0 0).2.1 (rdNum b 0 0).2.2).2.1 (rdNum b (rdNum b 0 0).2.1 (rdNum b 0 0).2.2).2.2
  have p3 := rdNum_place b _ (rdNum b (rdNum b 0 0).2.1 (rdNum b 0 0).2.2).2.2 p2 hb
  have h4 := key2 _ (rdNum b (rdNum b (rdNum b 0 0).2.1 (rdNum b 0 0).2.2).2.1 (rdNum b (rdNum b 0 0).2.1 (rdNum b 0 0).2.2).2.2).2.2 p3
  exact ⟨h1.1, h1.2, h2.1, h2.2, h3.1, h3.2, h4.1, h4.2.1, h4.2.2⟩
def RetAns (r : AnsR) (w : World) (e : Ending) (w' : World) : Prop :=
  ∃ B c I d, e = .returned (.tuple #[ansV r.f r.id r.n B r.row.length c I r.ids.length d r.more, .int .i64 r.e]) ∧ App w' w.heap.size 5 1 (.slice B r.row.length c) r.row.length (r.row.map bv) ∧ App w' w.heap.size 23 1 (.slice I r.ids.length d) r.ids.length (r.ids.map wv) ∧ Bl w w'
theorem RetAns.no {r : AnsR} {w w' : World} {e : Int} (h : r = ansNo e) (hb : Bl w w') : RetAns r w (.returned (.tuple #[ansV 0 0 0 none 0 0 none 0 0 false, .int .i64 e])) w' := by
  subst h; exact ⟨none, 0, none, 0, rfl, App.nil _ _ _ _, App.nil _ _ _ _, hb⟩
theorem Try.sizeAns : (Try.prog.info? 56).map (·.size) = some 6 := by kernel_rfl
end Go.Proofs.Ytpcbigadnkeflaa
