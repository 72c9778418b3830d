/- Words that the proofs of this seat share, more of them: make, copy, cuts of slices. No program in sight. -/
import Derived.Test.YtedmamchfgkkfaaLib
namespace Go.Proofs.Ytedmamchfgkkfaa
open Go.RowKit

/-- Where a cut begins. -/
def cutAddr (A : Option Addr) (size l m : Nat) : Option Addr := if m = l then A else A.map (·.add (l * size))
theorem cutAddr_some (b o size l m : Nat) (h : m ≠ l) : cutAddr (some ⟨b, o, none⟩) size l m = some ⟨b, o + l * size, none⟩ := by
  unfold cutAddr
  rw [if_neg h]
  simp only [Option.map_some]
  unfold Addr.add
  split <;> simp_all
theorem cutAddr_zero (A : Option Addr) (size m : Nat) : cutAddr A size 0 m = A := by
  unfold cutAddr
  split
  · rfl
  · cases A <;> simp [Addr.add]
theorem Rd.cut {w : World} {A : Option Addr} {cs : List Value} (h : Rd w A cs) (size l m k : Nat) (hk : m = l → k = 0) : Rd w (cutAddr A size l m) ((cs.drop (l * size)).take k) := by
  by_cases hm : m = l
  · rw [hk hm, List.take_zero]; exact Rd.nil _ _
  · intro hn
    obtain ⟨b, o, rfl, hc⟩ := h (by intro e; simp [e] at hn)
    rw [cutAddr_some b o size l m hm]
    have h2 : Rd w (some ⟨b, o, none⟩) cs := fun _ => ⟨b, o, rfl, hc⟩
    exact ((h2.drop (l * size)).take k) hn
theorem Rd.cutTo {w : World} {A : Option Addr} {cs : List Value} (h : Rd w A cs) (size l m : Nat) (hm : m = l → cs.length ≤ l * size) : Rd w (cutAddr A size l m) (cs.drop (l * size)) := by
  have := h.cut size l m (cs.length - l * size) (fun e => by have := hm e; omega)
  rwa [List.take_of_length_le (by rw [List.length_drop]; exact Nat.le_refl _)] at this
theorem App.cuts {w : World} {base n : Nat} {e : TypeId} {size : Nat} {A : Option Addr} {c : Nat} {cs : List Value} (h : App w base e size (.slice A n c) n cs) (l k m : Nat) (hlk : l ≤ k) (hkm : k ≤ m) (hm : m ≤ c) (hk : k ≤ n) :
    App w base e size (.slice (cutAddr A size l m) (k - l) (m - l)) (k - l) ((cs.drop (l * size)).take ((k - l) * size)) := by
  have hkk : k * size ≤ n * size := Nat.mul_le_mul_right _ hk
  have hll : l * size ≤ k * size := Nat.mul_le_mul_right _ hlk
  have hlen : ((cs.drop (l * size)).take ((k - l) * size)).length = (k - l) * size := by
    rw [List.length_take, List.length_drop, h.len, Nat.sub_mul]; omega
  rcases h.is with ⟨h1, h2⟩ | ⟨g, o, cap, cur, h1, hb, hg, hn, hcm, hsz, hcs⟩
  · cases h1
    have e1 : m = l := by omega
    have e2 : k - l = 0 := by omega
    have e3 : m - l = 0 := by omega
    refine ⟨hlen, .inl ⟨?_, e2⟩⟩
    unfold cutAddr
    rw [if_pos e1, e2, e3]
  · cases h1
    by_cases e1 : m = l
    · have e2 : k - l = 0 := by omega
      have e3 : m - l = 0 := by omega
      refine ⟨hlen, .inr ⟨g, o, m - l, cur, ?_, hb, hg, by omega, by omega, ?_, ?_⟩⟩
      · unfold cutAddr
        rw [if_pos e1]
      · rw [e3]; omega
      · rw [e2]; simp
    · rw [cutAddr_some g o size l m e1]
      have hmm : m * size ≤ c * size := Nat.mul_le_mul_right _ hm
      refine ⟨hlen, .inr ⟨g, o + l * size, m - l, cur, rfl, hb, hg, by omega, by omega, ?_, ?_⟩⟩
      · rw [Nat.sub_mul]
        have : l * size ≤ m * size := Nat.mul_le_mul_right _ (by omega)
        omega
      · rw [← hcs, List.drop_take, List.take_take, List.drop_drop]
        congr 1
        rw [Nat.sub_mul]; omega

section
variable {P : Program} {ops : Array Oper} {rest : List Oper} {o : Oper} {a : Act} {Q : Exit → Act → World → Prop} {w : World}
theorem bounds_l (n c : Nat) (kl : IntKind) (l : Int) (h0 : 0 ≤ l) (h1 : l ≤ n) : (Instr.sliceBounds true n c (some (.int kl l)) none none).run P w = .ok (l.toNat, n, c) w := by
  simp [Instr.sliceBounds, run_sliceBound, h0, h1]
theorem bounds_h (n c : Nat) (kl : IntKind) (l : Int) (h0 : 0 ≤ l) (h1 : l ≤ c) : (Instr.sliceBounds true n c none (some (.int kl l)) none).run P w = .ok (0, l.toNat, c) w := by
  simp [Instr.sliceBounds, run_sliceBound, h0, h1]
theorem bounds_lh (n c : Nat) (kl kh : IntKind) (l h : Int) (h0 : 0 ≤ l) (h1 : l ≤ h) (h2 : h ≤ c) : (Instr.sliceBounds true n c (some (.int kl l)) (some (.int kh h)) none).run P w = .ok (l.toNat, h.toNat, c) w := by
  have eh : (h.toNat : Int) = h := Int.toNat_of_nonneg (by omega)
  simp [Instr.sliceBounds, run_sliceBound, h0, h1, h2, eh, (by omega : 0 ≤ h)]
theorem bounds_hm (n c : Nat) (kh km : IntKind) (h m : Int) (h0 : 0 ≤ h) (h1 : h ≤ m) (h2 : m ≤ c) : (Instr.sliceBounds true n c none (some (.int kh h)) (some (.int km m))).run P w = .ok (0, h.toNat, m.toNat) w := by
  have eh : (m.toNat : Int) = m := Int.toNat_of_nonneg (by omega)
  simp [Instr.sliceBounds, run_sliceBound, h0, h1, h2, eh, (by omega : 0 ≤ m)]
theorem bl_nat (n c : Nat) (kl : IntKind) (l : Nat) (h1 : l ≤ n) : (Instr.sliceBounds true n c (some (.int kl (l : Int))) none none).run P w = .ok (l, n, c) w := bounds_l n c kl l (by omega) (by omega)
theorem bh_nat (n c : Nat) (kl : IntKind) (l : Nat) (h1 : l ≤ c) : (Instr.sliceBounds true n c none (some (.int kl (l : Int))) none).run P w = .ok (0, l, c) w := bounds_h n c kl l (by omega) (by omega)
theorem run_cut (t e : TypeId) (size : Nat) (ht : P.underlying t = some (.slice e)) (hsz : (P.info? e).map (·.size) = some size) (A : Option Addr) (n c : Nat) (lo hi mx : Option Value) (l h m : Nat)
    (hb : (Instr.sliceBounds true n c lo hi mx).run P w = .ok (l, h, m) w) : (Instr.sliceAt t (.slice A n c) lo hi mx).run P w = .ok (.slice (cutAddr A size l m) (h - l) (m - l)) w := by
  have hel : P.elem t = e := by simp [Program.elem, ht]
  have hu : P.underlying t = some (.slice (P.elem t)) := by rw [hel]; exact ht
  rw [run_sliceAt_slice w t _ lo hi mx hu, run_slice_any w t A n c hu, hb]
  obtain ⟨i, hi, hz⟩ := Option.map_eq_some_iff.1 hsz
  simp [Result.andThen, hel, sizeOf, typeInfo, hi, hz, sliced, cutAddr]
/-- A cut of a slice: 'at_cut' by (ho := rfl). -/
theorem cut_step (hgd : o.guard = none) (t e : TypeId) (size : Nat) (x : Operand) (lo hi mx : Option Operand) (ho : o.op = .slice t x lo hi mx) (ht : P.underlying t = some (.slice e)) (hsz : (P.info? e).map (·.size) = some size)
    {A : Option Addr} {n c : Nat} (hx : a.eval x = .slice A n c) (l h m : Nat) (hb : (Instr.sliceBounds true n c (lo.map a.eval) (hi.map a.eval) (mx.map a.eval)).run P w = .ok (l, h, m) w)
    (hk : ∀ A', A' = cutAddr A size l m → wpList P ops Q rest (a.put o.dst (.slice A' (h - l) (m - l))) w) : wpList P ops Q (o :: rest) a w := by
  refine wpList_plain hgd fun K hK => ?_
  have hr := run_cut (P := P) (w := w) t e size ht hsz A n c _ _ _ l h m hb
  unfold Oper.wp
  simp [execOp, ho, hx, hr, Result.andThen]
  exact hK _ _ (hk _ rfl)
/-- append(v, ys...) as a step of a region that draws its order. -/
theorem step_row {ops : Array Oper} {K : Act → World → Prop} {E : Prop} (hgd : o.guard = none) (s x : Operand) (t e : TypeId) (z : Value) (size bytes : Nat) (ho : o.op = .call { callee := .builtin .append, args := #[s, x], argTypes := #[t, t] })
    (ht : P.underlying t = some (.slice e)) (hinfo : (P.info? e).map (fun i => (i.zero, i.size, i.bytes)) = some (some z, size, bytes)) (hzs : z.cells.size = size) (hsz : 0 < size) (base : Nat)
    {v : Value} {n : Nat} {cs : List Value} (hown : App w base e size v n cs) (hs : a.eval s = v) {A : Option Addr} {m c : Nat} (hx : a.eval x = .slice A m c)
    {news : List Value} (hnews : Rd w A news) (hl : news.length = m * size) (h1 : ∀ u ∈ news, u.oneCell' = true)
    (hbytes : (n + m) * bytes ≤ 140737488355328) (hsmall : n + m ≤ 140737488355328) (hbase : base ≤ w.heap.size)
    (h : ∀ v' w', App w' base e size v' (n + m) (cs ++ news) → w.grownBy w' v.ownBlock → (v'.ownBlock = v.ownBlock ∨ v'.ownBlock = some w.heap.size) → K (a.put o.dst v') w') :
    if Region.wanted o (yielded ops a.tmps) = true then Oper.wp P o a w K Q else E := by
  have hw : Region.wanted o (yielded ops a.tmps) = true := by simp [Region.wanted, hgd]
  rw [if_pos hw]
  exact wp_append_app s x t e z size bytes ho ht hinfo hzs hsz base v n cs hs A m c hx hown news hl hnews h1 hbytes hsmall hbase h
/-- make([]T, n). -/
theorem make_step (hgd : o.guard = none) (t e : TypeId) (l c : Operand) (ho : o.op = .makeSlice t l c) (z : Value) (size bytes : Nat) (ht : P.underlying t = some (.slice e)) (hinfo : (P.info? e).map (fun i => (i.zero, i.size, i.bytes)) = some (some z, size, bytes))
    (n : Nat) (kl kc : IntKind) (hl : a.eval l = .int kl n) (hc : a.eval c = .int kc n) (hb : n * bytes ≤ 281474976710656) (hn : n ≤ 281474976710656) (base : Nat) (hbase : base ≤ w.heap.size)
    (h : ∀ w', App w' base e size (.slice (some ⟨w.heap.size, 0, none⟩) n n) n (madeCells z.cells (n * size)).toList → Bl w w' → w'.heap.size = w.heap.size + 1 → wpList P ops Q rest (a.put o.dst (.slice (some ⟨w.heap.size, 0, none⟩) n n)) w') : wpList P ops Q (o :: rest) a w := by
  obtain ⟨i, hi, hzz⟩ := Option.map_eq_some_iff.1 hinfo
  simp only [Prod.mk.injEq] at hzz
  obtain ⟨hz, hsize, hby⟩ := hzz
  subst hsize
  subst hby
  refine wpList_plain hgd fun K hK => ?_
  have hr := run_make (P := P) w t e i z ht hi hz kl kc n n (by omega) (by omega) (by rw [← Int.natCast_mul, Nat.mul_comm]; exact Int.ofNat_le.2 hb) (by omega)
  simp only [Int.toNat_natCast] at hr
  unfold Oper.wp
  simp only [execOp, ho, hl, hc]
  simp [hr, Result.andThen]
  refine hK _ _ (h _ (App.made w _ n hbase (Nat.le_trans hn (by decide)) (by rw [size_madeCells])) ((Bl.refl w).alloc _) (by simp))
/-- copy(d, s): d of the call's own. -/
theorem copy_step (hgd : o.guard = none) (d s : Operand) (dT sT : TypeId) (ho : o.op = .call { callee := .builtin .copy, args := #[d, s], argTypes := #[dT, sT] }) (e : TypeId) (hu : P.underlying dT = some (.slice e)) (hsz : (P.info? e).map (·.size) = some 1)
    {base : Nat} {v : Value} {n : Nat} {ds : List Value} (hown : App w base e 1 v n ds) (hd : a.eval d = v) {A : Option Addr} {m c : Nat} (hs : a.eval s = .slice A m c) {cs : List Value} (hl : cs.length = m) (hr : Rd w A cs) (h1 : ∀ u ∈ cs, u.oneCell' = true)
    (h : ∀ w', App w' base e 1 v n (cs.take n ++ ds.drop m) → w.grownBy w' v.ownBlock → w'.heap.size = w.heap.size → wpList P ops Q rest (a.put o.dst (.int .i64 (min m n : Nat))) w') : wpList P ops Q (o :: rest) a w := by
  have hdl := hown.len
  rw [Nat.mul_one] at hdl
  have hself : w.grownBy w v.ownBlock := ⟨rfl, rfl, rfl, Nat.le_refl _, fun _ _ _ => rfl⟩
  by_cases h0 : min m n = 0
  · obtain ⟨A1, c1, rfl, _⟩ := hown.slice
    refine wpList_copy_nothing hgd d s dT sT ho e hu hsz _ _ _ _ _ _ hd hs h0 ?_
    have := h w ?_ hself rfl
    · rw [h0] at this; exact this
    · rcases Nat.eq_zero_or_pos m with hm | hm
      · subst hm; obtain rfl : cs = [] := List.eq_nil_of_length_eq_zero hl; simpa using hown
      · have hn : n = 0 := by omega
        subst hn
        obtain rfl : ds = [] := List.eq_nil_of_length_eq_zero hdl
        simpa using hown
  · rcases hown.is with ⟨_, hn⟩ | ⟨g, off, cap, cur, rfl, hb, hg, hnc, hcm, hfit, htake⟩
    · omega
    · obtain ⟨bs, os, rfl, _⟩ := hr (by intro e; simp [e] at hl; omega)
      have hk : (cs.take n).length = Nat.min m n := by rw [List.length_take, hl, Nat.min_comm]
      have hk2 : (cs.take n).length = min m n := hk
      refine wpList_copy_own hgd d s dT sT ho e hu hsz g off n cap _ m c hd hs cur e hg (cs.take n) hk (hr.take n).cells (by rw [hk2]; omega) (fun u hu => h1 u (List.mem_of_mem_take hu)) ?_
      rw [hk2]
      have hcl : cur.toList.length = cur.size := Array.length_toList
      refine h _ ⟨?_, .inr ⟨g, off, cap, _, rfl, hb, setRow_heap w g cur _ e _ hg, hnc, hcm, ?_, ?_⟩⟩ ⟨rfl, rfl, rfl, by simp, fun k _ hk => setRow_other w g k _ (fun e => hk (by simp [Value.ownBlock, e]))⟩ (by simp)
      · rw [List.length_append, hk2, List.length_drop, hdl]; omega
      · simp only [List.size_toArray, List.length_append, List.length_take, List.length_drop, hcl, hl]
        omega
      · have hlo : off = (cur.toList.take off).length := by rw [List.length_take, hcl]; omega
        show List.take (n * 1) (List.drop off (List.toArray (List.take off cur.toList ++ (List.take n cs ++ List.drop (off + min m n) cur.toList))).toList) = _
        simp only
        rw [List.drop_append, List.drop_eq_nil_of_le (by omega), List.nil_append, ← hlo, Nat.sub_self, List.drop_zero, Nat.mul_one, List.take_append, List.take_take, Nat.min_self]
        congr 1
        rw [← htake, hk2, Nat.mul_one, List.drop_take, List.drop_drop]
        rcases Nat.le_total m n with hmn | hmn
        · rw [Nat.min_eq_left hmn]
        · rw [Nat.min_eq_right hmn, Nat.sub_self, Nat.sub_eq_zero_of_le hmn]; simp only [List.take_zero]
end
end Go.Proofs.Ytedmamchfgkkfaa
