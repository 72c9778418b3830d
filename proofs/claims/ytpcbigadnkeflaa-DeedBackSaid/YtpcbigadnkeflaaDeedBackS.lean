/- Deeds and answers as bytes: what is put is got, and what is got was put. No program in sight. -/
import Derived.Test.YtpcbigadnkeflaaLebBack2
import Derived.Test.YtpcbigadnkeflaaAnsF
namespace Go.Proofs.Ytpcbigadnkeflaa
open Go.RowKit

theorem app4 (a b c d : List UInt8) : a ++ b ++ c ++ d = a ++ (b ++ (c ++ d)) := by simp
theorem deed_there {k id n : Int} {b xs : List UInt8} (hid : 0 ≤ id ∧ id < 18446744073709551616) (h : deedPut k id n b = (xs, 0)) : deedGet xs = ⟨k, id, n, b, 0⟩ := by
  unfold deedPut at h
  split at h
  · simp at h
  · rename_i hm
    split at h
    · simp at h
    · rename_i hl
      simp only [Prod.mk.injEq, and_true] at h
      have hmay : deedMay k id n b.length = true := by simpa using hm
      have hq : 1 ≤ k ∧ k ≤ 9 ∧ 0 ≤ n ∧ n ≤ 65536 := by unfold deedMay at hmay; simp only [decide_eq_true_eq] at hmay; omega
      have hx : xs = [k.toNat.toUInt8] ++ (lebPut id.toNat ++ (lebPut n.toNat ++ lebRowPut b)) := by rw [← h, deedBytes, app4]
      have g1 := lebGet_put' (b := xs) (pre := [k.toNat.toUInt8]) (post := lebPut n.toNat ++ lebRowPut b) (n := id.toNat) (p := 1) hx rfl (by omega)
      have g2 := lebGet_put' (b := xs) (pre := [k.toNat.toUInt8] ++ lebPut id.toNat) (post := lebRowPut b) (n := n.toNat) (p := ((1 + (lebPut id.toNat).length : Nat) : Int)) (by rw [hx]; simp) (by simp; omega) (by omega)
      have g3 := lebRow_put (b := xs) (pre := [k.toNat.toUInt8] ++ lebPut id.toNat ++ lebPut n.toNat) (post := []) (r := b) (most := 65504) (p := ((1 + (lebPut id.toNat).length + (lebPut n.toNat).length : Nat) : Int)) (by rw [hx]; simp) (by simp; omega) (by omega) (by omega)
      have g2' : lebGet xs ((1 + (lebPut id.toNat).length : Nat) : Int) = ((n.toNat : Int), ((1 + (lebPut id.toNat).length + (lebPut n.toNat).length : Nat) : Int), 0) := by
        rw [g2]; simp only [List.length_append, List.length_singleton]
      have ht := took_4 (b := xs) (v := id.toNat) (m := ((1 + (lebPut id.toNat).length : Nat) : Int)) (by rw [g1]; simp only [List.length_singleton]) g2' g3
      have hne : xs ≠ [] := by rw [hx]; simp
      have hk : (xs.getD 0 0).toNat = k.toNat := by rw [hx]; simp only [List.singleton_append, List.getD_cons_zero]; exact u8c _ (by omega)
      have e1 : (id.toNat : Int) = id := by omega
      have e2 : (n.toNat : Int) = n := by omega
      have e3 : ((k.toNat : Nat) : Int) = k := by omega
      have hlen : xs.length = 1 + ((lebPut id.toNat).length + ((lebPut n.toNat).length + (lebRowPut b).length)) := by rw [hx]; simp only [List.length_append, List.length_singleton]
      unfold deedGet
      rw [if_neg hne, ht, if_neg (by simp), hk]
      simp only [e1, e2, e3, List.length_append, List.length_singleton]
      rw [if_neg (by omega), if_neg (by rw [hmay]; simp)]
theorem deed_back {b : List UInt8} {r : DeedR} (hr : deedGet b = r) (h0 : r.e = 0) (hb : b.length ≤ 140737488351232) : deedPut r.k r.id r.n r.row = (b, 0) := by
  unfold deedGet at hr
  split at hr
  · subst hr; simp [deedNo] at h0
  · rename_i hnil
    split at hr
    · subst hr; exact absurd h0 (by simpa [deedNo])
    · rename_i hte
      split at hr
      · subst hr; simp [deedNo] at h0
      · rename_i hbad
        split at hr
        · subst hr; simp [deedNo] at h0
        · rename_i hmay
          rcases lebGet_or b 1 with ⟨e, h, hne, _⟩ | ⟨v1, m1, h, _⟩
          · exact absurd (took_1 h hne) (by omega)
          rcases lebGet_or b m1 with ⟨e, h2, hne, _⟩ | ⟨v2, m2, h2, _⟩
          · exact absurd (took_2 h h2 hne) (by omega)
          rcases lebRow_or b m2 65504 with ⟨e, h3, hne, _⟩ | ⟨xs, m3, h3, _⟩
          · exact absurd (took_3 h h2 h3 hne) (by omega)
          rw [took_4 h h2 h3] at hr hbad hmay
          subst hr
          simp only at hbad hmay ⊢
          have hm3 : m3 = b.length := by omega
          have hn : (v2 : Int) ≤ 65536 := by omega
          obtain ⟨q1, e1, _, _, hv1, d1, l1⟩ := lebGet_back h
          obtain ⟨q2, e2, _, _, hv2, d2, l2⟩ := lebGet_back h2
          obtain ⟨q3, k3, e3, e4, _, _, d3, l3, hxl⟩ := lebRow_back h3
          obtain rfl : q1 = 1 := by omega
          obtain rfl : q2 = m1 := by omega
          obtain rfl : q3 = m2 := by omega
          obtain rfl : k3 = m3 := by omega
          have hmy : deedMay (b.getD 0 0).toNat v1 v2 xs.length = true := by simpa using hmay
          cases b with
          | nil => exact absurd rfl hnil
          | cons c l =>
            have hc := c.toNat_lt
            have hcu : c.toNat.toUInt8 = c := by apply UInt8.toNat_inj.1; exact u8c _ (by omega)
            unfold deedPut
            rw [if_neg (by rw [hmy]; simp), if_neg (by omega)]
            simp only [List.getD_cons_zero, deedBytes, Int.toNat_natCast, Prod.mk.injEq, and_true]
            rw [hm3, List.drop_length, List.append_nil] at d3
            rw [d2, d3] at d1
            rw [List.drop_succ_cons, List.drop_zero] at d1
            rw [app4, ← d1, hcu]; rfl
theorem ans_there {e id n : Int} {b xs : List UInt8} {is : List Nat} {more : Bool} (hid : 0 ≤ id ∧ id < 18446744073709551616) (hn : n < 9223372036854775808) (h64 : ∀ n ∈ is, n < 2 ^ 64) (h : ansPut e id n b is more = (xs, 0)) : ansGet xs = ⟨e, id, n, b, is, more, 0⟩ := by
  unfold ansPut at h
  split at h
  · simp at h
  · rename_i hm
    simp only [Prod.mk.injEq, and_true] at h
    have hq : 0 ≤ e ∧ e ≤ 13 ∧ 0 ≤ n ∧ b.length ≤ 65536 ∧ is.length ≤ 65536 := by simp only [ansMay, decide_eq_false_iff_not, Classical.not_not] at hm; omega
    generalize hz : (if more = true then (1 : UInt8) else 0) = z at *
    have hx : xs = lebPut e.toNat ++ (lebPut id.toNat ++ (lebPut n.toNat ++ (lebRowPut b ++ (lebListPut is ++ [z])))) := by rw [← h, ansBytes, hz]; simp
    generalize ha : (lebPut e.toNat).length = la at *
    generalize hi : (lebPut id.toNat).length = li at *
    generalize hnn : (lebPut n.toNat).length = ln at *
    generalize hb : (lebRowPut b).length = lb at *
    generalize hl : (lebListPut is).length = ll at *
    have g1 : lebGet xs 0 = ((e.toNat : Int), ((la : Nat) : Int), 0) := by
      have := lebGet_put' (b := xs) (pre := []) (post := lebPut id.toNat ++ (lebPut n.toNat ++ (lebRowPut b ++ (lebListPut is ++ [z])))) (n := e.toNat) (p := 0) (by rw [hx]; rfl) rfl (by omega)
      rw [this, ha]; simp
    have g2 : lebGet xs ((la : Nat) : Int) = ((id.toNat : Int), ((la + li : Nat) : Int), 0) := by
      have := lebGet_put' (b := xs) (pre := lebPut e.toNat) (post := lebPut n.toNat ++ (lebRowPut b ++ (lebListPut is ++ [z]))) (n := id.toNat) (p := ((la : Nat) : Int)) hx (by rw [ha]) (by omega)
      rw [this, ha, hi]
    have g3 : lebGet xs ((la + li : Nat) : Int) = ((n.toNat : Int), ((la + li + ln : Nat) : Int), 0) := by
      have := lebGet_put' (b := xs) (pre := lebPut e.toNat ++ lebPut id.toNat) (post := lebRowPut b ++ (lebListPut is ++ [z])) (n := n.toNat) (p := ((la + li : Nat) : Int)) (by rw [hx]; simp) (by rw [List.length_append, ha, hi]) (by omega)
      rw [this, List.length_append, ha, hi, hnn]
    have g4 : lebRow xs ((la + li + ln : Nat) : Int) 65536 = (b, ((la + li + ln + lb : Nat) : Int), 0) := by
      have := lebRow_put (b := xs) (pre := lebPut e.toNat ++ lebPut id.toNat ++ lebPut n.toNat) (post := lebListPut is ++ [z]) (r := b) (p := ((la + li + ln : Nat) : Int)) (most := 65536) (by rw [hx]; simp) (by simp only [List.length_append, ha, hi, hnn]) (by omega) (by omega)
      rw [this]; simp only [List.length_append, ha, hi, hnn, hb]
    have g5 : lebList xs ((la + li + ln + lb : Nat) : Int) 65536 = (is, ((la + li + ln + lb + ll : Nat) : Int), 0) := by
      have := lebList_put (b := xs) (pre := lebPut e.toNat ++ lebPut id.toNat ++ lebPut n.toNat ++ lebRowPut b) (post := [z]) (l := is) (p := ((la + li + ln + lb : Nat) : Int)) (most := 65536) (by rw [hx]; simp) (by simp only [List.length_append, ha, hi, hnn, hb]) (by omega) h64 (by omega)
      rw [this]; simp only [List.length_append, ha, hi, hnn, hb, hl]
    have ht := took3_5 g1 g2 g3 g4
    have hlen : xs.length = la + li + ln + lb + ll + 1 := by rw [hx]; simp only [List.length_append, List.length_singleton, ha, hi, hnn, hb, hl]; omega
    have hbyte : xs.getD (la + li + ln + lb + ll) 0 = z := by
      have hx2 : xs = (lebPut e.toNat ++ lebPut id.toNat ++ lebPut n.toNat ++ lebRowPut b ++ lebListPut is) ++ [z] := by rw [hx]; simp
      have hl2 : (lebPut e.toNat ++ lebPut id.toNat ++ lebPut n.toNat ++ lebRowPut b ++ lebListPut is).length = la + li + ln + lb + ll := by simp only [List.length_append, ha, hi, hnn, hb, hl]
      rw [hx2, ← hl2, List.getD_eq_getElem?_getD, List.getElem?_append_right (Nat.le_refl _)]
      simp
    have e1 : (id.toNat : Int) = id := by omega
    have e2 : (n.toNat : Int) = n := by omega
    have e3 : (e.toNat : Int) = e := by omega
    have hzz : z.toNat ≤ 1 ∧ (z.toNat == 1) = more := by subst hz; cases more <;> simp
    unfold ansGet
    rw [ht, if_neg (by simp)]
    simp only [g5]
    rw [if_neg (by simp), if_neg (by omega), Int.toNat_natCast, hbyte, if_neg (by omega), hzz.2, e1, e2, e3]
theorem ans_back {b : List UInt8} {r : AnsR} (hr : ansGet b = r) (h0 : r.e = 0) : ansPut r.f r.id r.n r.row r.ids r.more = (b, 0) := by
  rcases lebGet_or b 0 with ⟨e, h, hne, _⟩ | ⟨v1, m1, h1, _⟩
  · rw [ansGet_err (took3_1 h hne) hne] at hr; subst hr; exact absurd h0 hne
  rcases lebGet_or b m1 with ⟨e, h, hne, _⟩ | ⟨v2, m2, h2, _⟩
  · rw [ansGet_err (took3_2 h1 h hne) hne] at hr; subst hr; exact absurd h0 hne
  rcases lebGet_or b m2 with ⟨e, h, hne, _⟩ | ⟨v3, m3, h3, _⟩
  · rw [ansGet_err (took3_3 h1 h2 h hne) hne] at hr; subst hr; exact absurd h0 hne
  rcases lebRow_or b m3 65536 with ⟨e, h, hne, _⟩ | ⟨row, m4, h4, hrl, _⟩
  · rw [ansGet_err (took3_4 h1 h2 h3 h hne) hne] at hr; subst hr; exact absurd h0 hne
  have ht := took3_5 h1 h2 h3 h4
  rcases lebList_or b m4 65536 with ⟨e, h, hne, _⟩ | ⟨ids, m5, h5, hil, hm5, _⟩
  · have : ansGet b = ansNo e := by unfold ansGet; rw [ht, if_neg (by simp)]; simp only [h]; rw [if_pos hne]
    rw [this] at hr; subst hr; exact absurd h0 hne
  have hg : ansGet b = if (b.length : Int) ≤ m5 then ansNo 4
    else if (m5 : Int) + 1 ≠ b.length ∨ 1 < (b.getD m5 0).toNat ∨ 13 < (v1 : Int) ∨ 9223372036854775807 < (v3 : Int) then ansNo 5
    else ⟨v1, v2, v3, row, ids, (b.getD m5 0).toNat == 1, 0⟩ := by
    unfold ansGet; rw [ht, if_neg (by simp)]; simp only [h5]; rw [if_neg (by simp)]; rfl
  rw [hg] at hr
  split at hr
  · subst hr; simp [ansNo] at h0
  · split at hr
    · subst hr; simp [ansNo] at h0
    · rename_i hle hbad
      subst hr
      obtain ⟨q1, e1, _, _, _, d1, l1⟩ := lebGet_back h1
      obtain ⟨q2, e2, _, _, _, d2, l2⟩ := lebGet_back h2
      obtain ⟨q3, e3, _, _, _, d3, l3⟩ := lebGet_back h3
      obtain ⟨q4, k4, e4, f4, _, _, d4, l4, _⟩ := lebRow_back h4
      obtain ⟨q5, k5, e5, f5, _, _, d5, l5, _⟩ := lebList_back h5
      obtain rfl : q1 = 0 := by omega
      obtain rfl : q2 = m1 := by omega
      obtain rfl : q3 = m2 := by omega
      obtain rfl : q4 = m3 := by omega
      obtain rfl : k4 = m4 := by omega
      obtain rfl : q5 = k4 := by omega
      obtain rfl : k5 = m5 := by omega
      have hlast : b.drop k5 = [if ((b.getD k5 0).toNat == 1) = true then 1 else 0] := by
        have hlt : k5 < b.length := by omega
        rw [List.drop_eq_getElem_cons hlt, List.drop_eq_nil_of_le (by omega)]
        have hd : b.getD k5 0 = b[k5] := by simp [List.getD_eq_getElem?_getD, hlt]
        rw [hd] at hbad ⊢
        congr 1
        apply UInt8.toNat_inj.1
        have : (b[k5]).toNat ≤ 1 := by omega
        rcases (by omega : (b[k5]).toNat = 0 ∨ (b[k5]).toNat = 1) with h | h <;> simp [h]
      simp only
      unfold ansPut
      rw [if_neg (by simp [ansMay]; omega)]
      rw [List.drop_zero, d2, d3, d4, d5, hlast] at d1
      simp only [ansBytes, Int.toNat_natCast, Prod.mk.injEq, and_true]
      simp only [List.append_assoc]
      exact d1.symm
end Go.Proofs.Ytpcbigadnkeflaa
