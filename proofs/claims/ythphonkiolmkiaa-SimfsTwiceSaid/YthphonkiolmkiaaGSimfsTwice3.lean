/- Texts of the claim SimfsTwice, part 3: SimG, SimH, SimI, SimJ, SimK, SimL, SimM, SimN, SimO, SimP, SimQ, SimR, ShSort, SimT, SimU. -/
import Derived.Test.YthphonkiolmkiaaGSimfsTwice2
import Derived.Shelf.Sort.Plain
import Derived.Shelf.Slices.In.SortNone
import Derived.Shelf.Slices.In.SortNone2
import Derived.Test.YthphonkiolmkiaaProg
import Derived.Sort.OwnSorted
/- Layer 14 walked: change. -/
set_option linter.unusedVariables false
set_option linter.unusedSimpArgs false
namespace Go.Proofs.Ythphonkiolmkiaa
open Go.RowKit
set_option maxRecDepth 100000
set_option maxHeartbeats 8000000

theorem set_away {α : Type} (l : List α) (i : Nat) (hi : i < l.length) (b : α) : (l.eraseIdx i).take i ++ b :: (l.eraseIdx i).drop i = l.set i b := by
  rw [List.set_eq_take_append_cons_drop, if_pos hi, List.eraseIdx_eq_take_drop_succ]
  have hl : (l.take i).length = i := by rw [List.length_take]; omega
  rw [List.take_append_of_le_length (by omega), List.drop_append_of_le_length (by omega), List.take_of_length_le (by omega), List.drop_eq_nil_of_le (by omega), List.nil_append]
theorem Mem.on {w0 w w' : World} {cs : List Chunk} {A B : Chunk} (h : Mem w0 cs w) (i : Nat) (hi : cs[i]? = some A) (k : ∀ ds, Mem w0 (A :: ds) w → Mem w0 (B :: ds) w') : Mem w0 (cs.set i B) w' := by
  have h1 := h.bring i
  have h2 : Go.Proofs.Ythphonkiolmkiaa.bring i cs = A :: cs.eraseIdx i := by unfold Go.Proofs.Ythphonkiolmkiaa.bring; rw [hi]
  rw [h2] at h1
  have h3 := (k _ h1).away i
  rw [set_away cs i (List.getElem?_eq_some_iff.1 hi).1 B] at h3
  exact h3
theorem Mem.sinkAt {w0 w : World} {cs : List Chunk} {F : Facts} {T : TypeId} {size n m c : Nat} {A : Option Addr} {xs : List Value} (h : Mem w0 cs w) (i j : Nat) (hi : cs[i]? = some (Go.Proofs.Ythphonkiolmkiaa.row T size (.slice A m c) n xs)) (hj : (cs.eraseIdx i)[j]? = some (pool F)) :
    Mem w0 ((cs.eraseIdx i).set j (pool (fun B l => F B l ∨ (B = A ∧ l = xs)))) w := by
  have h1 := h.bring i
  have h2 : Go.Proofs.Ythphonkiolmkiaa.bring i cs = Go.Proofs.Ythphonkiolmkiaa.row T size (.slice A m c) n xs :: cs.eraseIdx i := by unfold Go.Proofs.Ythphonkiolmkiaa.bring; rw [hi]
  rw [h2] at h1
  have h3 := h1.bring (j + 1)
  have h4 : Go.Proofs.Ythphonkiolmkiaa.bring (j + 1) (Go.Proofs.Ythphonkiolmkiaa.row T size (.slice A m c) n xs :: cs.eraseIdx i) = pool F :: Go.Proofs.Ythphonkiolmkiaa.row T size (.slice A m c) n xs :: (cs.eraseIdx i).eraseIdx j := by unfold Go.Proofs.Ythphonkiolmkiaa.bring; rw [List.getElem?_cons_succ, hj]; rfl
  rw [h4] at h3
  have h5 := ((h3.perm (List.Perm.swap _ _ _)).sink).away j
  rw [set_away _ j (List.getElem?_eq_some_iff.1 hj).1] at h5
  exact h5
theorem Mem.poolDo {w0 w w' : World} {cs : List Chunk} {F : Facts} (h : Mem w0 cs w) (i : Nat) (hi : cs[i]? = some (pool F)) (hb : Bl w w') {c : Chg} {s : List UInt8} {A A' : Option Addr} {cap' : Nat} (hA : F A (s.map bv))
    (hr : (c.cut = true ∧ A' = A ∧ cap' = (chDo s c).length) ∨ (c.cut = false ∧ App w' w.heap.size 5 1 (.slice A' (chDo s c).length cap') (chDo s c).length ((chDo s c).map bv))) :
    Mem w0 (cs.set i (pool (fun B l => F B l ∨ (B = A' ∧ l = (chDo s c).map bv)))) w' := by
  refine h.on i hi (fun ds h1 => ?_)
  rcases hr with ⟨hc, rfl, _⟩ | ⟨_, hr⟩
  · refine (h1.bl hb).weak (fun B l hl => ?_)
    rcases hl with hl | ⟨rfl, rfl⟩
    · exact .inr ⟨l, hl, l.length, by simp⟩
    · refine .inr ⟨_, hA, c.off, ?_⟩
      unfold chDo
      rw [if_pos hc, List.map_take]
  · exact (h1.newRow hb hr).sink
theorem modify_set {α : Type} {l : List α} {i : Nat} {x : α} (h : l[i]? = some x) (f : α → α) : l.modify i f = l.set i (f x) := by
  apply List.ext_getElem?
  intro j
  rw [List.getElem?_modify, List.getElem?_set]
  by_cases e : i = j
  · subst e
    have := (List.getElem?_eq_some_iff.1 h).1
    have h2 : l[i] = x := (List.getElem?_eq_some_iff.1 h).2
    simp [this, h2]
  · simp [e]
theorem Try.infoChange : (Try.prog.info? 93).map (fun i => (i.zero, i.size, i.bytes)) = some (some (.agg #[.bool false, .int .i64 0, .slice none 0 0]), 3, 40) := by kernel_rfl
theorem Try.infoMove : (Try.prog.info? 88).map (fun i => (i.zero, i.size, i.bytes)) = some (some (.agg #[.int .i64 0, .string .empty, .string .empty, .int .i64 0]), 4, 48) := by kernel_rfl
/-- A change in a file: its row grows, its bytes are those behind it. -/
theorem fs_change {p b i : Nat} {R : FsR} {S : Fs} {x : Fl} {c : Chg} {B : Option Addr} {capB : Nat} {w0 w : World} {cs : List Chunk} (h : Mem w0 (row 5 1 (.slice B c.b.length capB) c.b.length (c.b.map bv) :: (fsL p R S S.used ++ cs)) w) (hf : FsFit R S) (ho : FsOk S)
    (hb : R.bs[i]? = some b) (hx : S.fl[i]? = some x) (hc : ChOk x.now c) (ha : S.acts < 1000000000) :
    Calls Try.prog 52 #[pE p, pE b, .agg #[.bool c.cut, nE c.off, .slice B c.b.length capB]] w (fun en w' => en = .returned (nE (endE (fails (change S i c))).2) ∧ Mem w0 (fsC p (fails (change S i c)) :: cs) w') := by
  have hxo := ho.files x (List.mem_of_getElem? hx)
  have hrl := ho.frow x (List.mem_of_getElem? hx)
  obtain ⟨FR, hfr, h1⟩ := ((h.bring 6).pick i (filesL_at hb hx)).file
  obtain ⟨m, hm⟩ : ∃ m, m = (endE (fails (change S i c))).2 := ⟨_, rfl⟩
  rw [← hm]
  have hcapB : c.b.length ≤ capB := by
    obtain ⟨_, _, e, hh⟩ := (h.app 0 rfl).slice
    cases e; exact hh
  have HC := Lib.hid hc
  have HF := Lib.hid (And.intro hf (And.intro ho (And.intro hxo hfr)))
  have HB := Lib.hid (And.intro hb hx)
  have HM := Lib.hid (h1.alloc (.cells #[.bool c.cut, nE c.off, .slice B c.b.length capB] 93))
  clear h h1 hf ho hb hx hc hxo hfr
  go_enter Try.func52, Try.ntmps52
  go_upto_region 1 with (fail)
  generalize w.alloc (.cells #[.bool c.cut, nE c.off, .slice B c.b.length capB] 93) = v at HM ⊢
  generalize w.heap.size = g at HM ⊢
  have k0 : v.cell? ⟨g, 0, none⟩ = some (.bool c.cut) := (HM.out.ob 0 rfl).cell 0 rfl
  have k1 : v.cell? ⟨g, 1, none⟩ = some (nE c.off) := (HM.out.ob 0 rfl).cell 1 rfl
  have k2 : v.cell? ⟨g, 2, none⟩ = some (.slice B c.b.length capB) := (HM.out.ob 0 rfl).cell 2 rfl
  have n1 : v.cell? ⟨b, 1, none⟩ = some (.slice FR.n x.now.length FR.nc) := (HM.out.ob 1 rfl).cell 1 rfl
  have HD := Lib.hid (change_do c FR.n B x.now FR.nc capB v.drew (HM.out.drew.rd 3 rfl HF.out.2.2.2.now) (HM.out.drew.app 5 rfl).rd.1 HF.out.2.2.1.now HF.out.2.2.2.nc hcapB HC.out)
  have hne1 : (v.drew).cell? ⟨b, 1, none⟩ = some (.slice FR.n x.now.length FR.nc) := (HM.out.drew.ob 1 rfl).cell 1 rfl
  go_cut [] (fun wx => ∃ (A2 : Option Addr) (cap2 : Nat), (chDo x.now c).length ≤ cap2 ∧ Hid (Mem w0 (blk g 93 #[.bool c.cut, nE c.off, .slice B c.b.length capB] :: blk b 85 #[.slice FR.a x.sure.length FR.ac, .slice A2 (chDo x.now c).length cap2, FR.v] :: row 93 3 FR.v x.row.length (FR.chs.flatMap chv) :: pool (fun B l => FR.F B l ∨ (B = A2 ∧ l = (chDo x.now c).map bv)) :: tog ((filesL R.bs S.fl).eraseIdx i) :: row 5 1 (.slice B c.b.length capB) c.b.length (c.b.map bv) :: blk p 76 (fsCells R S.room S.used S.fl.length S.acts S.fuse S.dead) :: mapC R.fm (.int .i64) nE pE R.Lf :: dirC R.sm R.Ls :: dirC R.nm R.Ln :: row 88 4 R.v S.row.length (S.row.flatMap mvv) :: cs) wx))
  case first =>
    go_region_law (go_simp; go_at_call 83; refine HD.out.mono ?_; rintro e w2 ⟨hbl2, A2, cap2, rfl, hcap2, hor2⟩; have M2 := HM.out.drew.poolDo 3 rfl hbl2 HF.out.2.2.2.now hor2; have q1 : w2.cell? ⟨b, 1, none⟩ = some (.slice FR.n x.now.length FR.nc) := (M2.ob 1 rfl).cell 1 rfl; have q2 : w2.frozen? ⟨b, 1, none⟩ = false := (M2.ob 1 rfl).free 1)
    all_goals
      go_wp2_with fail
      go_meet
      case rel => exact ⟨A2, cap2, hcap2, M2.put 1 rfl 1 (.slice A2 (chDo x.now c).length cap2)⟩
  case rest =>
    obtain ⟨A2, cap2, hcap2, HM1⟩ := hcut
    clear HD hne1 k0 k1 k2 n1 HM
    go_upto_region 2 with (fail)
    go_cut [] (fun wx => ∃ (V : Value), Hid (Mem w0 (blk g 93 #[.bool c.cut, nE c.off, .slice B c.b.length capB] :: blk b 85 #[.slice FR.a x.sure.length FR.ac, .slice A2 (chDo x.now c).length cap2, V] :: row 93 3 V (x.row.length + 1) (FR.chs.flatMap chv ++ [.bool c.cut, nE c.off, .slice B c.b.length capB]) :: pool (fun B l => FR.F B l ∨ (B = A2 ∧ l = (chDo x.now c).map bv)) :: tog ((filesL R.bs S.fl).eraseIdx i) :: row 5 1 (.slice B c.b.length capB) c.b.length (c.b.map bv) :: blk p 76 (fsCells R S.room S.used S.fl.length S.acts S.fuse S.dead) :: mapC R.fm (.int .i64) nE pE R.Lf :: dirC R.sm R.Ls :: dirC R.nm R.Ln :: row 88 4 R.v S.row.length (S.row.flatMap mvv) :: cs) wx))
    case first =>
      have ma := HM1.out.alloc (.cells #[.bool c.cut, nE c.off, .slice B c.b.length capB] 93)
      have MA := Lib.hid ma.drew
      have k0 : wc.cell? ⟨g, 0, none⟩ = some (.bool c.cut) := (HM1.out.ob 0 rfl).cell 0 rfl
      have k1 : wc.cell? ⟨g, 1, none⟩ = some (nE c.off) := (HM1.out.ob 0 rfl).cell 1 rfl
      have k2 : wc.cell? ⟨g, 2, none⟩ = some (.slice B c.b.length capB) := (HM1.out.ob 0 rfl).cell 2 rfl
      have n1 : wc.cell? ⟨b, 2, none⟩ = some FR.v := (HM1.out.ob 1 rfl).cell 2 rfl
      have n2 : (wc.alloc (.cells #[.bool c.cut, nE c.off, .slice B c.b.length capB] 93)).cell? ⟨b, 2, none⟩ = some FR.v := (ma.ob 2 rfl).cell 2 rfl
      have RN := Lib.hid (show Rd (wc.alloc (.cells #[.bool c.cut, nE c.off, .slice B c.b.length capB] 93)).drew (some ⟨wc.heap.size, 0, none⟩) [.bool c.cut, nE c.off, .slice B c.b.length capB] from by
        have h := rd_of_block (heap_alloc_new wc (.cells #[.bool c.cut, nE c.off, .slice B c.b.length capB] 93)) 0 3
        exact Rd.bl (by simpa using h) (Bl.refl _).drew)
      clear ma
      have HL := Lib.hid (And.intro hrl ha)
      clear hrl ha
      go_region_law (refine step_row rfl _ _ 83 93 (.agg #[.bool false, .int .i64 0, .slice none 0 0]) 3 40 (by rfl) Try.underlying83 Try.infoChange rfl (by decide) 0 (MA.out.app 3 rfl) (by rfl) (by rfl) RN.out (by simp) (by intro u hu; simp at hu; rcases hu with rfl | rfl | rfl <;> rfl) (by have := HL.out; omega) (by have := HL.out; omega) (Nat.zero_le _) ?_; intro v4 w4 hown4 hgr4 hat4; obtain ⟨A4, c4, rfl, hcc4⟩ := hown4.slice; have M4 := (MA.out.grow 3 rfl hown4 hgr4 hat4).drop; have n4 : w4.cell? ⟨b, 2, none⟩ = some FR.v := (M4.ob 1 rfl).cell 2 rfl; have nf4 : w4.frozen? ⟨b, 2, none⟩ = false := (M4.ob 1 rfl).free 2)
      all_goals
        go_wp2_with fail
        go_meet
        case rel => exact ⟨.slice A4 (x.row.length + 1) c4, M4.put 1 rfl 2 (.slice A4 (x.row.length + 1) c4)⟩
    case rest =>
      obtain ⟨V, HM2⟩ := hcut
      clear HM1
      obtain ⟨hf, ho, hxo, hfr⟩ := HF.out
      obtain ⟨hb, hx⟩ := HB.out
      have hok : FsOk (fails (change S i c)) := change_ok ho (fun y hy => by rw [hx] at hy; cases hy; exact HC.out)
      have hlen : (S.fl.modify i (fun x => { x with now := chDo x.now c, row := x.row ++ [c] })).length = S.fl.length := List.length_modify _ _ _
      have hfit : FsFit R (change S i c) := ⟨hf.sure, hf.seen, hf.nd, hf.files, hf.len.trans hlen.symm⟩
      have M5 := (HM2.out.drop).sinkAt 4 2 rfl rfl
      have e1 : FR.chs.flatMap chv ++ [.bool c.cut, nE c.off, .slice B c.b.length capB] = (FR.chs ++ [(c, B, capB)]).flatMap chv := by simp [chv]
      rw [e1] at M5
      have M6 := Mem.unfile (R := ⟨FR.a, FR.ac, A2, cap2, V, FR.chs ++ [(c, B, capB)], fun A l => (FR.F A l ∨ (A = A2 ∧ l = (chDo x.now c).map bv)) ∨ (A = B ∧ l = c.b.map bv)⟩) (x := ⟨x.sure, chDo x.now c, x.row ++ [c]⟩) (by
        have e2 : x.row.length + 1 = (x.row ++ [c]).length := by simp
        rw [e2] at M5
        exact M5) ⟨Or.inl (Or.inl hfr.sure), Or.inl (Or.inr ⟨rfl, rfl⟩), hfr.ac, hcap2, by simp [hfr.row], fun q hq => by
          rcases List.mem_append.1 hq with hq | hq
          · exact ⟨Or.inl (Or.inl (hfr.ch q hq).1), (hfr.ch q hq).2⟩
          · simp at hq
            subst hq
            exact ⟨Or.inr ⟨rfl, rfl⟩, hcapB⟩⟩
      have M7 := (Mem.unpick M6 (List.getElem?_eq_some_iff.1 (filesL_at hb hx)).1).away 5
      rw [filesL_set hb, ← modify_set hx (fun x => { x with now := chDo x.now c, row := x.row ++ [c] })] at M7
      have M8 : Mem w0 (fsL p R (change S i c) S.used ++ cs) wc := by
        unfold fsL change
        simp only [hlen]
        exact M7
      have HCOUNT := Lib.hid (fs_count M8 hfit hok.seen hok.files)
      have HEND := Lib.hid (fun (v : World) (h : Mem w0 (fsL p R (change S i c) (change S i c).used ++ cs) v) => show Calls Try.prog 82 #[pE p] v (fun en w' => en = .returned (nE m) ∧ Mem w0 (fsL p R (fails (change S i c)) (change S i c).used ++ cs) w') by rw [hm]; exact fs_end h ha ho.fuse)
      clear hcap2 hcapB HF HB HC HM2 M5 M6 M7 M8 e1 hxo hfr hb hx hf ho
      go_wp2_with fail
      refine HCOUNT.out.mono ?_
      rintro e w5 ⟨rfl, h5⟩
      have H5 := Lib.hid (HEND.out w5 h5)
      clear h5 HCOUNT HEND
      go_wp2_with fail
      refine H5.out.mono ?_
      rintro e w6 ⟨rfl, h6⟩
      have H6 := Lib.hid h6
      clear h6 H5
      go_wp2_with fail
      go_ret
      refine ⟨by rw [hm]; rfl, ?_⟩
      exact Mem.unfs (R := R) (S := fails (change S i c)) H6.out ⟨hfit.sure, hfit.seen, hfit.nd, hfit.files, hfit.len⟩ hok
end Go.Proofs.Ythphonkiolmkiaa
/- Layer 14 walked: moves. -/
set_option linter.unusedVariables false
set_option linter.unusedSimpArgs false
namespace Go.Proofs.Ythphonkiolmkiaa
open Go.RowKit
set_option maxRecDepth 100000
set_option maxHeartbeats 8000000

abbrev mvV (m : Mv) : Value := .agg #[nE m.kind, sE m.src, sE m.dst, nE m.file]
theorem move_do {b : Nat} {L D : Dir} {N : Nat} (m : Mv) {w0 w : World} {cs : List Chunk} (h : Mem w0 (dirC b L :: cs) w) (hp : L.Perm D) (hd : DirOk D) (hm : mvOk N D m) :
    Calls Try.prog 56 #[mvV m, .map (some b)] w (fun en w' => en = .returned (.tuple #[]) ∧ ∃ L' : Dir, L'.Perm (dirDo D m) ∧ Mem w0 (dirC b L' :: cs) w') := by
  obtain ⟨kind, src, dst, file⟩ := m
  have HP := Lib.hid (And.intro hp hd)
  have HM := Lib.hid (h.alloc (.cells #[nE kind, sE src, sE dst, nE file] 88))
  clear h hp hd
  unfold mvOk at hm
  simp only at hm
  go_enter Try.func56, Try.ntmps56
  go_upto_region 1 with (fail)
  generalize w.alloc (.cells #[nE kind, sE src, sE dst, nE file] 88) = v at HM ⊢
  generalize w.heap.size = g at HM ⊢
  have k0 : v.cell? ⟨g, 0, none⟩ = some (nE kind) := (HM.out.ob 0 rfl).cell 0 rfl
  have k1 : v.cell? ⟨g, 1, none⟩ = some (sE src) := (HM.out.ob 0 rfl).cell 1 rfl
  have k2 : v.cell? ⟨g, 2, none⟩ = some (sE dst) := (HM.out.ob 0 rfl).cell 2 rfl
  have k3 : v.cell? ⟨g, 3, none⟩ = some (nE file) := (HM.out.ob 0 rfl).cell 3 rfl
  rcases hm with ⟨hk, _, _, _⟩ | ⟨hk, n, hn⟩ | hk
  · subst hk
    obtain ⟨w1, hr, hm1, hc1, hs1⟩ := (HM.out.map' 1 rfl).update strEnc map_dir_u str_u dst file
    have HM1 := Lib.hid (HM.out.mapSet 1 rfl hm1 hc1).drop
    clear hm1 hc1 hs1
    go_wp2_with fail
    go_end0
    exact ⟨rfl, _, put_perm HP.out.2 HP.out.1 dst file, HM1.out⟩
  · subst hk
    have hp := HP.out.1
    have hd := HP.out.2
    have hg : mGet L src = some n := by rw [mGet_perm (hd.nd.perm hp.symm) hp]; exact hn
    have l1 := dir_get1 (HM.out.map' 1 rfl) src
    rw [hg] at l1
    simp only [Option.getD_some] at l1
    obtain ⟨w1, hr, hm1, hc1, hs1⟩ := (HM.out.map' 1 rfl).delete strEnc map_dir_u str_u src 9 0
    have HM1 := Lib.hid (HM.out.mapSet 1 rfl hm1 hc1)
    have q2 : w1.cell? ⟨g, 2, none⟩ = some (sE dst) := (HM1.out.ob 0 rfl).cell 2 rfl
    obtain ⟨w2, hr2, hm2, hc2, hs2⟩ := (HM1.out.map' 1 rfl).update strEnc map_dir_u str_u dst n
    have HM2 := Lib.hid (HM1.out.mapSet 1 rfl hm2 hc2).drop
    have e : dirDo D ⟨1, src, dst, file⟩ = dPut (mDel D src) dst n := by unfold dirDo; simp [hn]
    have HE := Lib.hid e
    have HP2 := Lib.hid (put_perm (hd.del src) (del_perm hp src) dst n)
    clear hm1 hc1 hs1 hm2 hc2 hs2 hg hn hp hd e HM HM1
    go_wp2_with fail
    go_end0
    exact ⟨rfl, _, by rw [HE.out]; exact HP2.out, HM2.out⟩
  · subst hk
    obtain ⟨w1, hr, hm1, hc1, hs1⟩ := (HM.out.map' 1 rfl).delete strEnc map_dir_u str_u src 9 0
    have HM1 := Lib.hid (HM.out.mapSet 1 rfl hm1 hc1).drop
    clear hm1 hc1 hs1
    go_wp2_with fail
    go_end0
    exact ⟨rfl, _, del_perm HP.out.1 src, HM1.out⟩
/-- A move in the directory. -/
theorem fs_turn {p : Nat} {R : FsR} {S : Fs} {u : Nat} {m : Mv} {w0 w : World} {cs : List Chunk} (h : Mem w0 (fsL p R S u ++ cs) w) (hf : FsFit R S) (hok : FsOk (fails (turn S m))) (hin : DirIn S.fl.length S.seen) (hm : mvOk S.fl.length S.seen m) (ha : S.acts < 1000000000) (hfu : S.fuse < 9223372036854775808) (hrl : S.row.length ≤ S.acts) :
    Calls Try.prog 50 #[pE p, mvV m] w (fun en w' => en = .returned (nE (endE (fails (turn S m))).2) ∧ Mem w0 (fsC p (fails (turn S m)) :: cs) w') := by
  obtain ⟨er, her⟩ : ∃ m', m' = (endE (fails (turn S m))).2 := ⟨_, rfl⟩
  rw [← her]
  have HF := Lib.hid (And.intro hf (And.intro hok (And.intro hin hm)))
  have HL := Lib.hid (And.intro ha (And.intro hfu hrl))
  have HM := Lib.hid (h.alloc (.cells #[nE m.kind, sE m.src, sE m.dst, nE m.file] 88))
  clear h hf hok hin hm ha hfu hrl
  go_enter Try.func50, Try.ntmps50
  go_upto_region 1 with (fail)
  generalize w.alloc (.cells #[nE m.kind, sE m.src, sE m.dst, nE m.file] 88) = v at HM ⊢
  generalize w.heap.size = g at HM ⊢
  have k0 : v.cell? ⟨g, 0, none⟩ = some (nE m.kind) := (HM.out.ob 0 rfl).cell 0 rfl
  have k1 : v.cell? ⟨g, 1, none⟩ = some (sE m.src) := (HM.out.ob 0 rfl).cell 1 rfl
  have k2 : v.cell? ⟨g, 2, none⟩ = some (sE m.dst) := (HM.out.ob 0 rfl).cell 2 rfl
  have k3 : v.cell? ⟨g, 3, none⟩ = some (nE m.file) := (HM.out.ob 0 rfl).cell 3 rfl
  have c6 : v.cell? ⟨p, 6, none⟩ = some (.map (some R.nm)) := (HM.out.ob 1 rfl).cell 6 rfl
  go_still_tail 5, (by kernel_rfl)
  change wpList _ _ _ _ _ v.drew
  have HM1 := Lib.hid HM.out.drew
  clear HM k0 k1 k2 k3 c6
  generalize v.drew = v1 at HM1 ⊢
  go_wp2_with fail
  refine (move_do (N := S.fl.length) m (HM1.out.bring 4) HF.out.1.seen HF.out.2.2.1.ok HF.out.2.2.2).mono ?_
  rintro e w2 ⟨rfl, L', hp', m2⟩
  have HM2 := Lib.hid (show Mem w0 (blk g 88 #[nE m.kind, sE m.src, sE m.dst, nE m.file] :: blk p 76 (fsCells R S.room u S.fl.length S.acts S.fuse S.dead) :: mapC R.fm (.int .i64) nE pE R.Lf :: dirC R.sm R.Ls :: dirC R.nm L' :: row 88 4 R.v S.row.length (S.row.flatMap mvv) :: tog (filesL R.bs S.fl) :: cs) w2 from m2.away 4)
  have HP := Lib.hid hp'
  clear m2 hp' HM1
  go_upto_region 2 with (fail)
  go_cut [] (fun wx => ∃ (V : Value), Hid (Mem w0 (blk g 88 #[nE m.kind, sE m.src, sE m.dst, nE m.file] :: blk p 76 (fsCells ⟨R.fm, R.sm, R.nm, V, R.Lf, R.Ls, L', R.bs⟩ S.room u S.fl.length S.acts S.fuse S.dead) :: mapC R.fm (.int .i64) nE pE R.Lf :: dirC R.sm R.Ls :: dirC R.nm L' :: row 88 4 V (S.row.length + 1) (S.row.flatMap mvv ++ [nE m.kind, sE m.src, sE m.dst, nE m.file]) :: tog (filesL R.bs S.fl) :: cs) wx))
  case first =>
    have ma := HM2.out.alloc (.cells #[nE m.kind, sE m.src, sE m.dst, nE m.file] 88)
    have MA := Lib.hid ma.drew
    have k0 : w2.cell? ⟨g, 0, none⟩ = some (nE m.kind) := (HM2.out.ob 0 rfl).cell 0 rfl
    have k1 : w2.cell? ⟨g, 1, none⟩ = some (sE m.src) := (HM2.out.ob 0 rfl).cell 1 rfl
    have k2 : w2.cell? ⟨g, 2, none⟩ = some (sE m.dst) := (HM2.out.ob 0 rfl).cell 2 rfl
    have k3 : w2.cell? ⟨g, 3, none⟩ = some (nE m.file) := (HM2.out.ob 0 rfl).cell 3 rfl
    have n1 : w2.cell? ⟨p, 7, none⟩ = some R.v := (HM2.out.ob 1 rfl).cell 7 rfl
    have n2 : (w2.alloc (.cells #[nE m.kind, sE m.src, sE m.dst, nE m.file] 88)).cell? ⟨p, 7, none⟩ = some R.v := (ma.ob 2 rfl).cell 7 rfl
    have RN := Lib.hid (show Rd (w2.alloc (.cells #[nE m.kind, sE m.src, sE m.dst, nE m.file] 88)).drew (some ⟨w2.heap.size, 0, none⟩) [nE m.kind, sE m.src, sE m.dst, nE m.file] from by
      have h := rd_of_block (heap_alloc_new w2 (.cells #[nE m.kind, sE m.src, sE m.dst, nE m.file] 88)) 0 4
      exact Rd.bl (by simpa using h) (Bl.refl _).drew)
    clear ma
    go_region_law (refine step_row rfl _ _ 74 88 (.agg #[.int .i64 0, .string .empty, .string .empty, .int .i64 0]) 4 48 (by rfl) Try.underlying74 Try.infoMove rfl (by decide) 0 (MA.out.app 6 rfl) (by rfl) (by rfl) RN.out (by simp) (by intro u hu; simp at hu; rcases hu with rfl | rfl | rfl | rfl <;> rfl) (by have := HL.out; omega) (by have := HL.out; omega) (Nat.zero_le _) ?_; intro v4 w4 hown4 hgr4 hat4; obtain ⟨A4, c4, rfl, hcc4⟩ := hown4.slice; have M4 := (MA.out.grow 6 rfl hown4 hgr4 hat4).drop; have n4 : w4.cell? ⟨p, 7, none⟩ = some R.v := (M4.ob 1 rfl).cell 7 rfl; have nf4 : w4.frozen? ⟨p, 7, none⟩ = false := (M4.ob 1 rfl).free 7)
    all_goals
      go_wp2_with fail
      go_meet
      case rel => exact ⟨.slice A4 (S.row.length + 1) c4, M4.put 1 rfl 7 (.slice A4 (S.row.length + 1) c4)⟩
  case rest =>
    obtain ⟨V, HM3⟩ := hcut
    clear HM2
    obtain ⟨hf, hok, hin, hm⟩ := HF.out
    have hfit : FsFit ⟨R.fm, R.sm, R.nm, V, R.Lf, R.Ls, L', R.bs⟩ (turn S m) := ⟨hf.sure, HP.out, hf.nd, hf.files, hf.len⟩
    have M8 : Mem w0 (fsL p ⟨R.fm, R.sm, R.nm, V, R.Lf, R.Ls, L', R.bs⟩ (turn S m) u ++ cs) wc := by
      have h := HM3.out.drop
      have e1 : S.row.flatMap mvv ++ [nE m.kind, sE m.src, sE m.dst, nE m.file] = (S.row ++ [m]).flatMap mvv := by simp [mvv]
      have e2 : S.row.length + 1 = (S.row ++ [m]).length := by simp
      rw [e1, e2] at h
      exact h
    have HCOUNT := Lib.hid (fs_count M8 hfit hok.seen hok.files)
    have HEND := Lib.hid (fun (v : World) (h : Mem w0 (fsL p ⟨R.fm, R.sm, R.nm, V, R.Lf, R.Ls, L', R.bs⟩ (turn S m) (turn S m).used ++ cs) v) => show Calls Try.prog 82 #[pE p] v (fun en w' => en = .returned (nE er) ∧ Mem w0 (fsL p ⟨R.fm, R.sm, R.nm, V, R.Lf, R.Ls, L', R.bs⟩ (fails (turn S m)) (turn S m).used ++ cs) w') by rw [her]; exact fs_end h HL.out.1 HL.out.2.1)
    have HE := Lib.hid her
    clear HF HL HM3 M8 hf hin hm her
    go_wp2_with fail
    refine HCOUNT.out.mono ?_
    rintro e w5 ⟨rfl, h5⟩
    have H5 := Lib.hid (HEND.out w5 h5)
    clear h5 HCOUNT HEND
    go_wp2_with fail
    refine H5.out.mono ?_
    rintro e w6 ⟨rfl, h6⟩
    have H6 := Lib.hid h6
    clear h6 H5
    go_wp2_with fail
    go_ret
    exact ⟨rfl, Mem.unfs (S := fails (turn S m)) H6.out ⟨hfit.sure, hfit.seen, hfit.nd, hfit.files, hfit.len⟩ hok⟩
end Go.Proofs.Ythphonkiolmkiaa
/- Layer 14 walked: names, a new disk. -/
set_option linter.unusedVariables false
set_option linter.unusedSimpArgs false
namespace Go.Proofs.Ythphonkiolmkiaa
open Go.RowKit
set_option maxRecDepth 100000
set_option maxHeartbeats 8000000

theorem ch_iff (x : UInt8) : chOfName x = decide ((97 ≤ (x.toNat : Int) ∧ (x.toNat : Int) ≤ 122) ∨ (48 ≤ (x.toNat : Int) ∧ (x.toNat : Int) ≤ 57) ∨ (x.toNat : Int) = 46 ∨ (x.toNat : Int) = 45) := by
  rw [Bool.eq_iff_iff]
  simp only [chOfName, Bool.or_eq_true, Bool.and_eq_true, decide_eq_true_eq, beq_iff_eq, UInt8.le_iff_toNat_le]
  have e1 : x = 46 ↔ x.toNat = 46 := ⟨fun h => by rw [h]; rfl, fun h => UInt8.toNat_inj.1 (by rw [h]; rfl)⟩
  have e2 : x = 45 ↔ x.toNat = 45 := ⟨fun h => by rw [h]; rfl, fun h => UInt8.toNat_inj.1 (by rw [h]; rfl)⟩
  rw [e1, e2]
  have n1 : (97 : UInt8).toNat = 97 := rfl
  have n2 : (122 : UInt8).toNat = 122 := rfl
  have n3 : (48 : UInt8).toNat = 48 := rfl
  have n4 : (57 : UInt8).toNat = 57 := rfl
  rw [n1, n2, n3, n4]
  omega
theorem fs_isName (s : ByteArray) (w : World) (hs : s.size ≤ 281474976710656) :
    Calls Try.prog 49 #[sE s] w (fun en w' => en = .returned (.bool (isNm s)) ∧ Bl w w') := by
  go_enter Try.func49, Try.ntmps49
  go_wp2_with (refine strb_step rfl 9 22 5 _ (by rfl) Try.underlying9 Try.underlying22 Try.underlying5 (t := s) (by rfl) ?_; intro A c v hrd hbl)
  have HR := Lib.hid hrd
  have HB := Lib.hid hbl
  have HS := Lib.hid (tb_len s)
  clear hrd hbl
  go_loopw [4, 8] (fun _ i wr => ∃ j : Nat, j ≤ (tb s).length ∧ i = .int .i64 j ∧ ((tb s).take j).all chOfName = true ∧ wr = v) (fun _ i _ => (tb s).length - (intOf i).toNat)
  case atStart => exact ⟨0, by omega, rfl, by simp, rfl⟩
  case round =>
    obtain ⟨j, hj, rfl, hall, hwr⟩ := hrel
    have hwr2 := hwr.symm
    clear hwr
    subst hwr2
    have hb : (tb s).length ≤ 281474976710656 := by rw [HS.out]; exact hs
    by_cases hlt : j < (tb s).length
    · obtain ⟨x, hx⟩ := get_some (tb s) j hlt
      obtain ⟨b, o, rfl, hc⟩ := HR.out.get hx
      simp only [bv] at hc
      have hst : ((tb s).take (j + 1)).all chOfName = chOfName x := by
        rw [List.take_add_one, hx, List.all_append, hall]; simp
      have hno : chOfName x = false → isNm s = false := fun h => by
        unfold isNm
        have : (tb s).all chOfName = false := by
          cases e : (tb s).all chOfName
          · rfl
          · rw [List.all_eq_true] at e
            rw [e x (List.mem_of_getElem? hx)] at h; cases h
        rw [this]; rfl
      rw [ch_iff] at hst hno
      have HT := Lib.hid (And.intro hst hno)
      have hx8 : (x.toNat : Int) < 256 := by have := x.toNat_lt; omega
      clear hst hno hx hall
      generalize x.toNat = q at hc HT hx8
      go_wp2_with fail
      all_goals
        try simp only [beq_iff_eq, beq_eq_false_iff_ne, bne_iff_ne, ne_eq, decide_eq_true_eq, decide_eq_false_iff_not] at *
        first
        | (go_roundw
           case rel =>
             have h1 := HT.out.1
             refine ⟨j + 1, by omega, by go_num, h1.trans (decide_eq_true ?_), trivial⟩
             omega
           case measure => simp [intOf]; omega)
        | (go_ret
           refine ⟨?_, HB.out⟩
           have h2 := HT.out.2 (by omega)
           rw [h2]
           rfl)
    · have hj2 : j = (tb s).length := by omega
      subst hj2
      rw [List.take_length] at hall
      have hin : isNm s = (decide (1 ≤ s.size) && decide (s.size ≤ 32)) := by unfold isNm; rw [hall]; rfl
      rw [HS.out] at *
      have HN := Lib.hid hin
      clear hin hall hlt hj hb
      go_wp2_with fail
      all_goals
        go_ret
        refine ⟨?_, HB.out⟩
        rw [HN.out]
        first
        | (refine ret_bool (a := decide ((s.size : Int) ≤ 32)) ?_
           rw [Bool.eq_iff_iff]
           simp only [Bool.and_eq_true, decide_eq_true_eq] at *
           omega)
        | (refine ret_bool (a := false) ?_
           rw [Bool.eq_iff_iff]
           simp only [Bool.and_eq_true, decide_eq_true_eq] at *
           constructor
           · intro h; cases h
           · omega)
theorem dir_nil_perm : ([] : Dir).Perm [] := List.Perm.refl _
/-- A new disk. -/
def newFs (room : Nat) : Fs := ⟨room, [], [], [], [], 0, 0, false⟩
theorem newFs_ok {room : Nat} (h : room ≤ M0) : FsOk (newFs room) :=
  ⟨h, (fun x hx => by cases hx), ⟨List.Pairwise.nil, Nat.zero_le _, (fun p hp => by cases hp)⟩, rfl, Nat.le_refl _, (fun x hx => by cases hx), Nat.zero_le _, (by show (0 : Nat) < _; omega)⟩
theorem fs_New (room : Int) {w0 w : World} {cs : List Chunk} (h : Mem w0 cs w) :
    Calls Try.prog 16 #[.int .i64 room] w (fun en w' => (room < 0 ∨ 1048576 < room) ∧ en = .returned (.tuple #[.pointer none, nE 2]) ∧ Mem w0 cs w' ∨ ¬ (room < 0 ∨ 1048576 < room) ∧ ∃ p, en = .returned (.tuple #[pE p, nE 0]) ∧ Mem w0 (fsC p (newFs room.toNat) :: cs) w') := by
  have HM := Lib.hid h
  clear h
  go_enter Try.func16, Try.ntmps16
  by_cases h1 : room < 0
  · go_wp2_with fail
    go_ret2
    exact Or.inl ⟨Or.inl h1, rfl, HM.out⟩
  · obtain ⟨k, rfl⟩ : ∃ k : Nat, room = (k : Int) := ⟨room.toNat, by omega⟩
    by_cases h2 : 1048576 < (k : Int)
    · go_wp2_with fail
      go_ret2
      exact ⟨rfl, HM.out⟩
    · have m1 := run_makeMap (P := Try.prog) 72 w
      have m2 := run_makeMap (P := Try.prog) 73 (w.alloc (.map #[] 0))
      have m3 := run_makeMap (P := Try.prog) 73 ((w.alloc (.map #[] 0)).alloc (.map #[] 0))
      have M1 := ((((HM.out.mapNew (.int .i64) nE pE).mapNew .string sE nE).mapNew .string sE nE).nilRow 88 4)
      have M2 := M1.alloc (.cells #[.bool true, nE k, .int .i64 0, .map (some w.heap.size), .int .i64 0, .map (some (w.heap.size + 1)), .map (some (w.heap.size + 1 + 1)), .slice none 0 0, .int .i64 0, .int .i64 0, .bool false] 76)
      simp only [heap_alloc_size] at M2 m1 m2 m3
      have M3 := Mem.close (l := []) ((((((M2.bring 1).away 4).bring 1).away 3).bring 1).away 2)
      have M4 := M3.away 5
      have HM2 := Lib.hid M4
      have hk := Lib.hid (show k ≤ M0 by show k ≤ 1048576; omega)
      clear M1 M2 HM M3 M4
      go_wp2_with fail
      go_ret2
      refine Or.inr ⟨_, rfl, ?_⟩
      exact Mem.unfs (R := ⟨w.heap.size, w.heap.size + 1, w.heap.size + 1 + 1, .slice none 0 0, [], [], [], []⟩) (S := newFs k) HM2.out ⟨List.Perm.refl _, List.Perm.refl _, List.Pairwise.nil, fun n b => by simp, rfl⟩ (newFs_ok hk.out)
end Go.Proofs.Ythphonkiolmkiaa
/- Layer 14 walked: a directory of its own. -/
set_option linter.unusedVariables false
set_option linter.unusedSimpArgs false
namespace Go.Proofs.Ythphonkiolmkiaa
open Go.RowKit
set_option maxRecDepth 100000
set_option maxHeartbeats 8000000

theorem run_makeMap_hint {P : Program} {t kt et : TypeId} (ht : P.underlying t = some (.map kt et)) (n : Nat) (w : World) : (Instr.makeMap t (some (.int .i64 (n : Int)))).run P w = .ok (.map (some w.heap.size)) (w.alloc (.map #[] 0)) := by
  simp [Instr.makeMap, run_underlying ht, asInt, asIntOf, Sem.run, Result.andThen]
theorem perm_erase {α : Type} {l : List α} {j : Nat} {x : α} (h : l[j]? = some x) : l.Perm (x :: l.eraseIdx j) := by
  have hl := (List.getElem?_eq_some_iff.1 h).1
  have h2 : l.take j ++ l[j] :: l.drop (j + 1) = l := by rw [← List.drop_eq_getElem_cons hl, List.take_append_drop]
  have h3 : (l.take j ++ l[j] :: l.drop (j + 1)).Perm (l[j] :: (l.take j ++ l.drop (j + 1))) := List.perm_middle
  obtain ⟨_, e⟩ := List.getElem?_eq_some_iff.1 h
  rw [h2, e] at h3
  rw [List.eraseIdx_eq_take_drop_succ]
  exact h3
theorem twin_step {L O left : Dir} {j : Nat} {s : ByteArray} {n : Nat} (hL : KeysNd L) (h : (O ++ left).Perm L) (hj : left[j]? = some (s, n)) : mPut O s n = O ++ [(s, n)] ∧ ((O ++ [(s, n)]) ++ left.eraseIdx j).Perm L := by
  have h2 : KeysNd (O ++ left) := hL.perm h.symm
  constructor
  · refine mPut_new (fun p hp e => ?_)
    exact (List.pairwise_append.1 h2).2.2 p hp _ (List.mem_of_getElem? hj) e
  · refine List.Perm.trans ?_ h
    rw [List.append_assoc]
    exact List.Perm.append_left O (by simpa using (perm_erase hj).symm)
theorem dir_twin {b : Nat} {L : Dir} {w0 w : World} {cs : List Chunk} (h : Mem w0 (dirC b L :: cs) w) (hL : KeysNd L) :
    Calls Try.prog 54 #[.map (some b)] w (fun en w' => ∃ b' L', en = .returned (.map (some b')) ∧ L'.Perm L ∧ Mem w0 (dirC b' L' :: dirC b L :: cs) w') := by
  have l0 := (h.map' 0 rfl).len map_dir_u 3
  have l1 := run_makeMap_hint (P := Try.prog) map_dir_u L.length w
  have HM := Lib.hid (h.mapNew .string sE nE)
  have HL := Lib.hid hL
  clear h hL
  go_enter Try.func54, Try.ntmps54
  go_upto_region 2 with (fail)
  generalize w.alloc (.map #[] 0) = v at HM ⊢
  generalize w.heap.size = b' at HM ⊢
  clear l0 l1
  obtain ⟨o, hr, M2⟩ := (HM.out.bring 1).rngStart map_dir_u
  have HM2 := Lib.hid M2
  clear M2
  go_wp2_with fail
  generalize v.alloc o = v2 at HM2 ⊢
  generalize v.heap.size = r at HM2 ⊢
  clear hr HM
  go_loopw [4, 5] (fun _ _ wr => ∃ (left O : Dir), (O ++ left).Perm L ∧ Hid (Mem w0 (rngC b r .string sE nE L left :: dirC b' O :: cs) wr)) (fun _ _ wr => rngLeft wr b r)
  case atStart => exact ⟨L, [], List.Perm.refl _, HM2.out⟩
  case round =>
    obtain ⟨left, O, hp, HS⟩ := hrel
    have hlen := HS.out.rngLeft 0 rfl
    rcases HS.out.rngNext (P := Try.prog) 0 with ⟨hnil, hr⟩ | ⟨j, ⟨s, n⟩, v3, hj, hr1, hr2, M3, hsz⟩
    · subst hnil
      have HP := Lib.hid hp
      have HF := Lib.hid (HS.out.rngEnd.away 1)
      clear hp HS hlen HM2
      go_wp2_with fail
      go_ret
      exact ⟨b', O, rfl, by simpa using HP.out, HF.out⟩
    · obtain ⟨e1, e2⟩ := twin_step HL.out hp hj
      obtain ⟨w4, hr4, hm4, hc4, hs4⟩ := (M3.map' 1 rfl).update strEnc map_dir_u str_u s n
      have M4 := M3.mapSet 1 rfl hm4 hc4
      rw [e1] at M4
      have HM4 := Lib.hid (show Mem w0 (rngC b r .string sE nE L (left.eraseIdx j) :: dirC b' (O ++ [(s, n)]) :: cs) w4 from M4)
      have HX := Lib.hid (And.intro e2 (And.intro hj hlen))
      clear e1 e2 hj hlen hm4 hc4 hs4 M4 M3 hp hsz
      go_wp2_with fail
      go_roundw
      case rel => exact ⟨left.eraseIdx j, O ++ [(s, n)], HX.out.1, HM4.out⟩
      case measure =>
        obtain ⟨_, hj, hlen⟩ := HX.out
        have hjl := (List.getElem?_eq_some_iff.1 hj).1
        have e := HM4.out.rngLeft (b := b) (r := r) (d := .string) (kE := sE) (vE := nE) (L := L) (left := left.eraseIdx j) 0 rfl
        rw [e, hlen, List.length_eraseIdx, if_pos hjl]; omega
end Go.Proofs.Ythphonkiolmkiaa
/- Layer 14 walked: Append. -/
set_option linter.unusedVariables false
set_option linter.unusedSimpArgs false
namespace Go.Proofs.Ythphonkiolmkiaa
open Go.RowKit
set_option maxRecDepth 100000
set_option maxHeartbeats 8000000

/-- What is known where a file is there. -/
theorem get_ok {S : Fs} {R : FsR} {s : ByteArray} (hf : FsFit R S) (ho : FsOk S) (he : getE S s = 0) :
    ∃ n x b, mGet S.seen s = some n ∧ getN S s = n ∧ R.bs[n - 1]? = some b ∧ S.fl[n - 1]? = some x ∧ flAt S.fl n = x ∧ FlOk x ∧ (R.bs[getN S s - 1]?).getD 0 = b := by
  obtain ⟨_, n, hn, hN⟩ := getE_zero he
  obtain ⟨h1, x, hx, hok, hat⟩ := ho.file hn
  have hl : n - 1 < R.bs.length := by rw [hf.len]; exact (List.getElem?_eq_some_iff.1 hx).1
  obtain ⟨b, hb⟩ : ∃ b, R.bs[n - 1]? = some b := ⟨_, List.getElem?_eq_getElem hl⟩
  exact ⟨n, x, b, hn, hN, hb, hx, hat, hok, by rw [hN, hb]; rfl⟩
theorem fs_Append {p : Nat} {S : Fs} (s : ByteArray) (b : List UInt8) (A : Option Addr) (cA : Nat) {w0 w : World} {cs : List Chunk} (h : Mem w0 (fsC p S :: cs) w) (hA : ∀ v, Mem w0 (fsC p S :: cs) v → Rd v A (b.map bv)) (hb : b.length ≤ 140737488355328) (ha : S.acts < 1000000000) :
    Calls Try.prog 18 #[pE p, sE s, .slice A b.length cA] w (fun en w' => en = .returned (nE (fsAppend S s b).2) ∧ Mem w0 (fsC p (fsAppend S s b).1 :: cs) w') := by
  obtain ⟨R, hf, ho, M⟩ := h.fs
  have HG := Lib.hid (fs_get s M hf ho)
  have HA := Lib.hid (fun (v : World) (m : Mem w0 (fsL p R S S.used ++ cs) v) => hA v (m.unfs hf ho))
  have HF := Lib.hid (And.intro hf ho)
  clear h M hA
  by_cases he : getE S s = 0
  case neg =>
    have e1 : fsAppend S s b = (S, getE S s) := by unfold fsAppend; rw [if_pos he]
    rw [e1]
    rw [if_neg he] at HG
    obtain ⟨e, hee⟩ : ∃ e, e = getE S s := ⟨_, rfl⟩
    rw [← hee] at HG he ⊢
    have hne : ((e : Int) != 0) = true := by simp [he]
    clear hee he e1
    go_enter Try.func18, Try.ntmps18
    go_wp2_with fail
    refine HG.out.mono ?_
    rintro en w1 ⟨rfl, m1⟩
    have HM := Lib.hid m1
    clear m1 HG
    go_wp2_with fail
    go_ret
    exact ⟨rfl, HM.out.unfs HF.out.1 HF.out.2⟩
  case pos =>
    obtain ⟨n, x, bb, hn, hN, hbb, hx, hat, hxo, hbe⟩ := get_ok hf ho he
    rw [if_pos he, hbe, he] at HG
    have hroom := ho.room
    have hused : S.used ≤ 64 * M0 := used_le ho.files ho.seen
    have hi1 : S.room ≤ 1048576 := hroom
    have hi2 : S.used ≤ 67108864 := hused
    by_cases hfull : 0 < b.length ∧ S.room < b.length + S.used
    case pos =>
      have e1 : fsAppend S s b = (S, 9) := by unfold fsAppend; rw [if_neg (by simp [he]), if_pos hfull]
      rw [e1]
      have i1 : (0 : Int) < (b.length : Int) := by omega
      have i2 : (S.room : Int) - (S.used : Int) < (b.length : Int) := by omega
      have i3 : -9223372036854775808 ≤ (S.room : Int) - (S.used : Int) := by omega
      have i4 : (S.room : Int) - (S.used : Int) ≤ 9223372036854775807 := by omega
      clear e1 hroom hused hbe hbb hx hat hxo hn hN he
      go_enter Try.func18, Try.ntmps18
      go_wp2_with fail
      refine HG.out.mono ?_
      rintro en w1 ⟨rfl, m1⟩
      have HM := Lib.hid m1
      clear m1 HG
      have c1 : w1.cell? ⟨p, 1, none⟩ = some (nE S.room) := (HM.out.ob 0 rfl).cell 1 rfl
      have c2 : w1.cell? ⟨p, 2, none⟩ = some (nE S.used) := (HM.out.ob 0 rfl).cell 2 rfl
      go_upto_region 4 with (fail)
      go_region
      have HM2 := Lib.hid HM.out.drew
      go_wp2_with fail
      go_ret
      exact ⟨rfl, HM2.out.unfs HF.out.1 HF.out.2⟩
    case neg =>
      have e1 : fsAppend S s b = endE (fails (change S (n - 1) ⟨false, x.now.length, b⟩)) := by unfold fsAppend; rw [if_neg (by simp [he]), if_neg hfull, hN, hat]
      rw [e1]
      have hch := append_ch ho hn hfull
      rw [hat] at hch
      have HC := Lib.hid hch
      have HX := Lib.hid (And.intro hbb (And.intro hx (And.intro hxo.now ha)))
      have hc : b.length = 0 ∨ (0 < b.length ∧ b.length + S.used ≤ S.room) := by omega
      have hx2 : (x.now.length : Int) ≤ 1048576 := by have : x.now.length ≤ 1048576 := hxo.now; omega
      clear e1 hroom hused hbe hbb hx hat hxo hn hN he hch hfull ha
      obtain ⟨S2, hS2⟩ : ∃ S2, S2 = endE (fails (change S (n - 1) ⟨false, x.now.length, b⟩)) := ⟨_, rfl⟩
      have HS2 := Lib.hid hS2
      rw [← hS2]
      clear hS2
      go_enter Try.func18, Try.ntmps18
      go_wp2_with fail
      refine HG.out.mono ?_
      rintro en w1 ⟨rfl, m1⟩
      have HM := Lib.hid m1
      clear m1 HG
      have c1 : w1.cell? ⟨p, 1, none⟩ = some (nE S.room) := (HM.out.ob 0 rfl).cell 1 rfl
      have c2 : w1.cell? ⟨p, 2, none⟩ = some (nE S.used) := (HM.out.ob 0 rfl).cell 2 rfl
      go_upto_region 4 with (fail)
      go_cut [34] (fun t wx => t = .bool false ∧ Hid (Mem w0 (fsL p R S S.used ++ cs) wx))
      case first =>
        have HM2 := Lib.hid HM.out.drew
        rcases hc with hc | ⟨hc, hc2⟩
        · obtain rfl : b = [] := List.eq_nil_of_length_eq_zero hc
          clear hc
          go_region
          all_goals
            go_wp2_with fail
            go_meet
            case rel => exact ⟨rfl, HM2.out⟩
        · have i1 : (0 : Int) < (b.length : Int) := by omega
          have i2 : ¬ ((S.room : Int) - (S.used : Int) < (b.length : Int)) := by omega
          have i3 : -9223372036854775808 ≤ (S.room : Int) - (S.used : Int) := by omega
          have i4 : (S.room : Int) - (S.used : Int) ≤ 9223372036854775807 := by omega
          go_region
          all_goals
            go_wp2_with fail
            go_meet
            case rel => exact ⟨rfl, HM2.out⟩
      case rest =>
        obtain ⟨rfl, HM2⟩ := hcut
        clear HM c1 c2 hc
        go_upto_region 6 with (fail)
        obtain ⟨R', _, hob, _, _⟩ := HM2.out.seeFile 5 rfl HX.out.1 HX.out.2.1
        have k1 : wc.cell? ⟨bb, 1, none⟩ = some (.slice R'.n x.now.length R'.nc) := hob.cell 1 rfl
        have HM3 := Lib.hid HM2.out.drew
        have HN := Lib.hid (App.nil wc.drew wc.drew.heap.size 5 1)
        clear hob
        go_region_law (first
          | (refine step_row rfl _ _ 22 5 (.int .u8 0) 1 1 (by rfl) Try.underlying22 Try.infoU8 rfl (by decide) wc.drew.heap.size HN.out (by rfl) (by rfl) (HA.out _ HM3.out) (by simp) (bv_all b) (by omega) (by omega) (Nat.le_refl _) ?_; intro v5 w5 hown5 hgr5 hat5; obtain ⟨A5, c5, rfl, hcc5⟩ := hown5.slice; have M5 := HM3.out.newRow ((Bl.refl _).grown hgr5 (by intro q hq; cases hq)) hown5; obtain ⟨R5, _, ho5, _, _⟩ := M5.seeFile 6 rfl HX.out.1 HX.out.2.1; have k5 : w5.cell? ⟨bb, 1, none⟩ = some (.slice R5.n x.now.length R5.nc) := ho5.cell 1 rfl)
          | (go_simp; go_at_call 52; refine (fs_change (c := ⟨false, x.now.length, b⟩) (i := n - 1) (B := A5) (capB := c5) (by simpa using M5) HF.out.1 HF.out.2 HX.out.1 HX.out.2.1 HC.out HX.out.2.2.2).mono ?_; rintro en w6 ⟨rfl, M6⟩))
        all_goals
          go_wp2_with fail
          go_ret
          exact ⟨by rw [HS2.out]; rfl, by rw [HS2.out]; exact M6⟩
end Go.Proofs.Ythphonkiolmkiaa
/- Layer 14 walked: Cut, Rename, Remove. -/
set_option linter.unusedVariables false
set_option linter.unusedSimpArgs false
namespace Go.Proofs.Ythphonkiolmkiaa
open Go.RowKit
set_option maxRecDepth 100000
set_option maxHeartbeats 8000000

theorem fs_Cut {p : Nat} {S : Fs} (s : ByteArray) (k : Int) {w0 w : World} {cs : List Chunk} (h : Mem w0 (fsC p S :: cs) w) (ha : S.acts < 1000000000) :
    Calls Try.prog 60 #[pE p, sE s, .int .i64 k] w (fun en w' => en = .returned (nE (fsCut S s k).2) ∧ Mem w0 (fsC p (fsCut S s k).1 :: cs) w') := by
  obtain ⟨R, hf, ho, M⟩ := h.fs
  have HG := Lib.hid (fs_get s M hf ho)
  have HF := Lib.hid (And.intro hf ho)
  clear h M
  by_cases he : getE S s = 0
  case neg =>
    have e1 : fsCut S s k = (S, getE S s) := by unfold fsCut; rw [if_pos he]
    rw [e1]
    rw [if_neg he] at HG
    obtain ⟨e, hee⟩ : ∃ e, e = getE S s := ⟨_, rfl⟩
    rw [← hee] at HG he ⊢
    have hne : ((e : Int) != 0) = true := by simp [he]
    clear hee he e1
    go_enter Try.func60, Try.ntmps60
    go_wp2_with fail
    refine HG.out.mono ?_
    rintro en w1 ⟨rfl, m1⟩
    have HM := Lib.hid m1
    clear m1 HG
    go_wp2_with fail
    go_ret
    exact ⟨rfl, HM.out.unfs HF.out.1 HF.out.2⟩
  case pos =>
    obtain ⟨n, x, bb, hn, hN, hbb, hx, hat, hxo, hbe⟩ := get_ok hf ho he
    rw [if_pos he, hbe, he] at HG
    have HX := Lib.hid (And.intro hbb (And.intro hx (And.intro hxo.now ha)))
    have hx2 : (x.now.length : Int) ≤ 1048576 := by have : x.now.length ≤ 1048576 := hxo.now; omega
    by_cases hbad : k < 0 ∨ (x.now.length : Int) < k
    case pos =>
      have e1 : fsCut S s k = (S, 2) := by unfold fsCut; rw [if_neg (by simp [he]), hN, hat, if_pos hbad]
      rw [e1]
      have hb2 : k < 0 ∨ (¬ k < 0 ∧ (x.now.length : Int) < k) := by omega
      clear e1 hbad hn hN hbb hx hat hxo hbe he
      go_enter Try.func60, Try.ntmps60
      go_wp2_with fail
      refine HG.out.mono ?_
      rintro en w1 ⟨rfl, m1⟩
      have HM := Lib.hid m1
      clear m1 HG
      obtain ⟨R', _, hob, _, _⟩ := HM.out.seeFile 5 rfl HX.out.1 HX.out.2.1
      have n1 : w1.cell? ⟨bb, 1, none⟩ = some (.slice R'.n x.now.length R'.nc) := hob.cell 1 rfl
      clear hob
      rcases hb2 with h1 | ⟨h1, h2⟩
      all_goals
        go_wp2_with fail
        go_ret
        exact ⟨rfl, HM.out.unfs HF.out.1 HF.out.2⟩
    case neg =>
      obtain ⟨q, rfl⟩ : ∃ q : Nat, k = (q : Int) := ⟨k.toNat, by omega⟩
      have e1 : fsCut S s q = endE (fails (change S (n - 1) ⟨true, q, []⟩)) := by unfold fsCut; rw [if_neg (by simp [he]), hN, hat, if_neg hbad]; rfl
      rw [e1]
      have hq : q ≤ x.now.length := by omega
      have HC := Lib.hid (show ChOk x.now ⟨true, q, []⟩ from ⟨hq, by have h : x.now.length ≤ M0 := hxo.now; show q + 0 ≤ M0; exact Nat.le_trans hq h, fun _ => rfl⟩)
      have h1 : ¬ ((q : Int) < 0) := by omega
      have h2 : ¬ ((x.now.length : Int) < (q : Int)) := by omega
      clear e1 hbad hn hN hbb hx hat hxo hbe he hq
      obtain ⟨S2, hS2⟩ : ∃ S2, S2 = endE (fails (change S (n - 1) ⟨true, q, []⟩)) := ⟨_, rfl⟩
      have HS2 := Lib.hid hS2
      rw [← hS2]
      clear hS2
      go_enter Try.func60, Try.ntmps60
      go_wp2_with fail
      refine HG.out.mono ?_
      rintro en w1 ⟨rfl, m1⟩
      have HM := Lib.hid m1
      clear m1 HG
      obtain ⟨R', _, hob, _, _⟩ := HM.out.seeFile 5 rfl HX.out.1 HX.out.2.1
      have n1 : w1.cell? ⟨bb, 1, none⟩ = some (.slice R'.n x.now.length R'.nc) := hob.cell 1 rfl
      clear hob
      go_wp2_with fail
      refine (fs_change (c := ⟨true, q, []⟩) (i := n - 1) (B := none) (capB := 0) (HM.out.nilRow 5 1) HF.out.1 HF.out.2 HX.out.1 HX.out.2.1 HC.out HX.out.2.2.2).mono ?_
      rintro en w2 ⟨rfl, M2⟩
      go_wp2_with fail
      go_ret
      exact ⟨by rw [HS2.out]; rfl, by rw [HS2.out]; exact M2⟩
theorem fs_Rename {p : Nat} {S : Fs} (s : ByteArray) (t : ByteArray) {w0 w : World} {cs : List Chunk} (h : Mem w0 (fsC p S :: cs) w) (ha : S.acts < 1000000000) (ht : t.size ≤ 281474976710656) :
    Calls Try.prog 24 #[pE p, sE s, sE t] w (fun en w' => en = .returned (nE (fsRename S s t).2) ∧ Mem w0 (fsC p (fsRename S s t).1 :: cs) w') := by
  obtain ⟨R, hf, ho, M⟩ := h.fs
  have HG := Lib.hid (fs_get s M hf ho)
  have HF := Lib.hid (And.intro hf ho)
  clear h M
  by_cases he : getE S s = 0
  case neg =>
    have e1 : fsRename S s t = (S, getE S s) := by unfold fsRename; rw [if_pos he]
    rw [e1]
    rw [if_neg he] at HG
    obtain ⟨e, hee⟩ : ∃ e, e = getE S s := ⟨_, rfl⟩
    rw [← hee] at HG he ⊢
    have hne : ((e : Int) != 0) = true := by simp [he]
    clear hee he e1
    go_enter Try.func24, Try.ntmps24
    go_wp2_with fail
    refine HG.out.mono ?_
    rintro en w1 ⟨rfl, m1⟩
    have HM := Lib.hid m1
    clear m1 HG
    go_wp2_with fail
    go_ret
    exact ⟨rfl, HM.out.unfs HF.out.1 HF.out.2⟩
  case pos =>
    obtain ⟨n, x, bb, hn, hN, hbb, hx, hat, hxo, hbe⟩ := get_ok hf ho he
    rw [if_pos he, hbe, he] at HG
    have HNM := Lib.hid (fun v => fs_isName t v ht)
    by_cases hnm : isNm t = false
    case pos =>
      have e1 : fsRename S s t = (S, 2) := by unfold fsRename; rw [if_neg (by simp [he]), if_pos hnm]
      rw [e1]
      rw [hnm] at HNM
      clear e1 hnm hn hN hbb hx hat hxo hbe he
      go_enter Try.func24, Try.ntmps24
      go_wp2_with fail
      refine HG.out.mono ?_
      rintro en w1 ⟨rfl, m1⟩
      have HM := Lib.hid m1
      clear m1 HG
      go_wp2_with fail
      refine (HNM.out w1).mono ?_
      rintro en w2 ⟨rfl, hb2⟩
      have HM2 := Lib.hid (HM.out.bl hb2)
      clear hb2 HM HNM
      go_wp2_with fail
      go_ret
      exact ⟨rfl, HM2.out.unfs HF.out.1 HF.out.2⟩
    case neg =>
      rw [Bool.not_eq_false] at hnm
      rw [hnm] at HNM
      have e1 : fsRename S s t = endE (fails (turn S ⟨1, s, t, 0⟩)) := by unfold fsRename; rw [if_neg (by simp [he]), if_neg (by simp [hnm])]
      rw [e1]
      have HMV := Lib.hid (show mvOk S.fl.length S.seen ⟨1, s, t, 0⟩ from .inr (.inl ⟨rfl, n, hn⟩))
      have HA := Lib.hid ha
      clear e1 hnm hn hN hbb hx hat hxo hbe he ha
      obtain ⟨S2, hS2⟩ : ∃ S2, S2 = endE (fails (turn S ⟨1, s, t, 0⟩)) := ⟨_, rfl⟩
      have HS2 := Lib.hid hS2
      rw [← hS2]
      clear hS2
      go_enter Try.func24, Try.ntmps24
      go_wp2_with fail
      refine HG.out.mono ?_
      rintro en w1 ⟨rfl, m1⟩
      have HM := Lib.hid m1
      clear m1 HG
      go_wp2_with fail
      refine (HNM.out w1).mono ?_
      rintro en w2 ⟨rfl, hb2⟩
      have HM2 := Lib.hid (HM.out.bl hb2)
      clear hb2 HM HNM
      go_wp2_with fail
      refine (fs_turn (m := ⟨1, s, t, 0⟩) HM2.out HF.out.1 (turn_ok HF.out.2 HMV.out) HF.out.2.seen HMV.out HA.out HF.out.2.fuse HF.out.2.rowl).mono ?_
      rintro en w3 ⟨rfl, M3⟩
      go_wp2_with fail
      go_ret
      exact ⟨by rw [HS2.out]; rfl, by rw [HS2.out]; exact M3⟩
theorem fs_Remove {p : Nat} {S : Fs} (s : ByteArray)  {w0 w : World} {cs : List Chunk} (h : Mem w0 (fsC p S :: cs) w) (ha : S.acts < 1000000000) :
    Calls Try.prog 61 #[pE p, sE s] w (fun en w' => en = .returned (nE (fsRemove S s).2) ∧ Mem w0 (fsC p (fsRemove S s).1 :: cs) w') := by
  obtain ⟨R, hf, ho, M⟩ := h.fs
  have HG := Lib.hid (fs_get s M hf ho)
  have HF := Lib.hid (And.intro hf ho)
  clear h M
  by_cases he : getE S s = 0
  case neg =>
    have e1 : fsRemove S s = (S, getE S s) := by unfold fsRemove; rw [if_pos he]
    rw [e1]
    rw [if_neg he] at HG
    obtain ⟨e, hee⟩ : ∃ e, e = getE S s := ⟨_, rfl⟩
    rw [← hee] at HG he ⊢
    have hne : ((e : Int) != 0) = true := by simp [he]
    clear hee he e1
    go_enter Try.func61, Try.ntmps61
    go_wp2_with fail
    refine HG.out.mono ?_
    rintro en w1 ⟨rfl, m1⟩
    have HM := Lib.hid m1
    clear m1 HG
    go_wp2_with fail
    go_ret
    exact ⟨rfl, HM.out.unfs HF.out.1 HF.out.2⟩
  case pos =>
    obtain ⟨n, x, bb, hn, hN, hbb, hx, hat, hxo, hbe⟩ := get_ok hf ho he
    rw [if_pos he, hbe, he] at HG
    have e1 : fsRemove S s = endE (fails (turn S ⟨2, s, .empty, 0⟩)) := by unfold fsRemove; rw [if_neg (by simp [he])]
    rw [e1]
    have HMV := Lib.hid (show mvOk S.fl.length S.seen ⟨2, s, .empty, 0⟩ from .inr (.inr rfl))
    have HA := Lib.hid ha
    clear e1 hn hN hbb hx hat hxo hbe he ha
    obtain ⟨S2, hS2⟩ : ∃ S2, S2 = endE (fails (turn S ⟨2, s, .empty, 0⟩)) := ⟨_, rfl⟩
    have HS2 := Lib.hid hS2
    rw [← hS2]
    clear hS2
    go_enter Try.func61, Try.ntmps61
    go_wp2_with fail
    refine HG.out.mono ?_
    rintro en w1 ⟨rfl, m1⟩
    have HM := Lib.hid m1
    clear m1 HG
    go_wp2_with fail
    refine (fs_turn (m := ⟨2, s, .empty, 0⟩) HM.out HF.out.1 (turn_ok HF.out.2 HMV.out) HF.out.2.seen HMV.out HA.out HF.out.2.fuse HF.out.2.rowl).mono ?_
    rintro en w3 ⟨rfl, M3⟩
    go_wp2_with fail
    go_ret
    exact ⟨by rw [HS2.out]; rfl, by rw [HS2.out]; exact M3⟩
end Go.Proofs.Ythphonkiolmkiaa
/- Layer 14 walked: Sync, SyncDir, and what is told of a disk. -/
set_option linter.unusedVariables false
set_option linter.unusedSimpArgs false
namespace Go.Proofs.Ythphonkiolmkiaa
open Go.RowKit
set_option maxRecDepth 100000
set_option maxHeartbeats 8000000

theorem fs_Sync {p : Nat} {S : Fs} (s : ByteArray) {w0 w : World} {cs : List Chunk} (h : Mem w0 (fsC p S :: cs) w) (ha : S.acts < 1000000000) :
    Calls Try.prog 19 #[pE p, sE s] w (fun en w' => en = .returned (nE (fsSync S s).2) ∧ Mem w0 (fsC p (fsSync S s).1 :: cs) w') := by
  obtain ⟨R, hf, ho, M⟩ := h.fs
  have HG := Lib.hid (fs_get s M hf ho)
  have HF := Lib.hid (And.intro hf ho)
  clear h M
  by_cases he : getE S s = 0
  case neg =>
    have e1 : fsSync S s = (S, getE S s) := by unfold fsSync; rw [if_pos he]
    rw [e1]
    rw [if_neg he] at HG
    obtain ⟨e, hee⟩ : ∃ e, e = getE S s := ⟨_, rfl⟩
    rw [← hee] at HG he ⊢
    have hne : ((e : Int) != 0) = true := by simp [he]
    clear hee he e1
    go_enter Try.func19, Try.ntmps19
    go_wp2_with fail
    refine HG.out.mono ?_
    rintro en w1 ⟨rfl, m1⟩
    have HM := Lib.hid m1
    clear m1 HG
    go_wp2_with fail
    go_ret
    exact ⟨rfl, HM.out.unfs HF.out.1 HF.out.2⟩
  case pos =>
    obtain ⟨n, x, bb, hn, hN, hbb, hx, hat, hxo, hbe⟩ := get_ok hf ho he
    rw [if_pos he, hbe, he] at HG
    have HX := Lib.hid (And.intro hbb (And.intro hx hxo))
    have HFA := Lib.hid (fun (v : World) (M : Mem w0 (fsL p R S S.used ++ cs) v) => show Calls Try.prog 53 #[pE p] v (fun en w' => en = .returned (.bool (fails S).dead) ∧ Mem w0 (fsL p R (fails S) S.used ++ cs) w') from fs_fails M ha ho.fuse)
    cases hd : (fails S).dead
    case true =>
      have e1 : fsSync S s = (fails S, 13) := by unfold fsSync; rw [if_neg (by simp [he]), if_pos hd]
      rw [e1]
      rw [hd] at HFA
      clear e1 hn hN hbb hx hat hxo hbe he
      go_enter Try.func19, Try.ntmps19
      go_wp2_with fail
      refine HG.out.mono ?_
      rintro en w1 ⟨rfl, m1⟩
      have HM := Lib.hid m1
      clear m1 HG
      go_wp2_with fail
      refine (HFA.out w1 HM.out).mono ?_
      rintro en w2 ⟨rfl, m2⟩
      have HM2 := Lib.hid m2
      clear m2 HM HFA
      go_wp2_with fail
      go_ret
      exact ⟨rfl, Mem.unfs (S := fails S) HM2.out ⟨HF.out.1.sure, HF.out.1.seen, HF.out.1.nd, HF.out.1.files, HF.out.1.len⟩ (fails_ok HF.out.2)⟩
    case false =>
      have e1 : fsSync S s = ({ fails S with fl := S.fl.modify (n - 1) (fun x => { x with sure := x.now, row := [] }) }, 0) := by unfold fsSync; rw [if_neg (by simp [he]), if_neg (by simp [hd]), hN]
      rw [e1]
      rw [hd] at HFA
      have hx2 : x.now.length ≤ 1048576 := hxo.now
      clear e1 hn hN hbb hx hat hxo hbe he
      go_enter Try.func19, Try.ntmps19
      go_wp2_with fail
      refine HG.out.mono ?_
      rintro en w1 ⟨rfl, m1⟩
      have HM := Lib.hid m1
      clear m1 HG
      go_wp2_with fail
      refine (HFA.out w1 HM.out).mono ?_
      rintro en w2 ⟨rfl, m2⟩
      obtain ⟨FR, hfr, m3⟩ := ((m2.bring 5).pick (n - 1) (filesL_at (fl := S.fl) HX.out.1 HX.out.2.1)).file
      have HM3 := Lib.hid m3
      have HFR := Lib.hid hfr
      clear m2 m3 hfr HM HFA
      have n1 : w2.cell? ⟨bb, 1, none⟩ = some (.slice FR.n x.now.length FR.nc) := (HM3.out.ob 0 rfl).cell 1 rfl
      have HN := Lib.hid (App.nil w2 w2.heap.size 5 1)
      have HRD := Lib.hid (HM3.out.rd 2 rfl HFR.out.now)
      go_wp2_with (at_builtin; go_must (refine append_row rfl _ _ 22 5 (.int .u8 0) 1 1 rfl Try.underlying22 Try.infoU8 rfl (by decide) w2.heap.size HN.out (by rfl) (by rfl) HRD.out (by simp) (bv_all _) (by omega) (by omega) (Nat.le_refl _) ?_); intro v5 w5 hown5 hgr5 hat5; obtain ⟨A5, c5, rfl, hcc5⟩ := hown5.slice; have M5 := HM3.out.newRow ((Bl.refl _).grown hgr5 (by intro q hq; cases hq)) hown5; have k0 : w5.cell? ⟨bb, 0, none⟩ = some (.slice FR.a x.sure.length FR.ac) := (M5.ob 1 rfl).cell 0 rfl; have k2 : w5.cell? ⟨bb, 2, none⟩ = some FR.v := (M5.ob 1 rfl).cell 2 rfl; have f0 : w5.frozen? ⟨bb, 0, none⟩ = false := (M5.ob 1 rfl).free 0; have f2 : w5.frozen? ⟨bb, 2, none⟩ = false := (M5.ob 1 rfl).free 2)
      go_ret
      have M6 := (((M5.put 1 rfl 0 (.slice A5 x.now.length c5)).put 1 rfl 2 (.slice none 0 0)).sinkAt 0 2 rfl rfl)
      have M7 := ((((M6.bring 1).drop).nilRow 93 3).away 1)
      obtain ⟨hbb, hx, hxo⟩ := HX.out
      have M8 := Mem.unfile (R := ⟨A5, c5, FR.n, FR.nc, .slice none 0 0, [], fun B l => FR.F B l ∨ (B = A5 ∧ l = [] ++ x.now.map bv)⟩) (x := ⟨x.now, x.now, []⟩) M7 ⟨Or.inr ⟨rfl, rfl⟩, Or.inl HFR.out.now, by simpa using hcc5, HFR.out.nc, rfl, fun q hq => by cases hq⟩
      have M9 := (Mem.unpick M8 (List.getElem?_eq_some_iff.1 (filesL_at (fl := S.fl) hbb hx)).1).away 5
      have e2 : (filesL R.bs (fails S).fl).set (n - 1) (fileC bb ⟨x.now, x.now, []⟩) = filesL R.bs (S.fl.modify (n - 1) (fun x => { x with sure := x.now, row := [] })) := by
        rw [modify_set hx (fun x => { x with sure := x.now, row := [] })]
        exact filesL_set hbb _
      have hlen : (S.fl.modify (n - 1) (fun x => { x with sure := x.now, row := [] })).length = S.fl.length := List.length_modify _ _ _
      have hused : usedOf (S.fl.modify (n - 1) (fun x => { x with sure := x.now, row := [] })) S.seen = usedOf S.fl S.seen := by
        unfold usedOf
        congr 1
        apply List.map_congr_left
        intro q _
        unfold flAt
        rw [List.getElem?_modify]
        cases S.fl[q.2 - 1]? with
        | none => rfl
        | some y => by_cases e : n - 1 = q.2 - 1 <;> simp [e]
      refine ⟨rfl, Mem.unfs (R := R) ?_ ⟨HF.out.1.sure, HF.out.1.seen, HF.out.1.nd, HF.out.1.files, HF.out.1.len.trans hlen.symm⟩ (sync_ok HF.out.2 (n - 1))⟩
      rw [e2] at M9
      unfold fsL Fs.used
      simp only [hlen]
      have hu2 : usedOf (S.fl.modify (n - 1) (fun x => { x with sure := x.now, row := [] })) (fails S).seen = S.used := hused
      rw [hu2]
      exact M9
end Go.Proofs.Ythphonkiolmkiaa
/- Layer 14 walked: SyncDir, and what is told of a disk. -/
set_option linter.unusedVariables false
set_option linter.unusedSimpArgs false
namespace Go.Proofs.Ythphonkiolmkiaa
open Go.RowKit
set_option maxRecDepth 100000
set_option maxHeartbeats 8000000

theorem ready_at {p : Nat} {S : Fs} {R : FsR} {u : Nat} {w0 w : World} {cs : List Chunk} (M : Mem w0 (fsL p R S u ++ cs) w) :
    Calls Try.prog 48 #[pE p] w (fun en w' => en = .returned (nE (if S.dead then 13 else 0)) ∧ Mem w0 (fsL p R S u ++ cs) w') := by
  refine (fs_ready (M.ob 0 rfl)).mono ?_
  rintro en w' ⟨rfl, n, rfl⟩
  exact ⟨rfl, M.drewN n⟩
theorem fs_SyncDir {p : Nat} {S : Fs} {w0 w : World} {cs : List Chunk} (h : Mem w0 (fsC p S :: cs) w) (ha : S.acts < 1000000000) :
    Calls Try.prog 20 #[pE p] w (fun en w' => en = .returned (nE (fsSyncDir S).2) ∧ Mem w0 (fsC p (fsSyncDir S).1 :: cs) w') := by
  obtain ⟨R, hf, ho, M⟩ := h.fs
  have HG := Lib.hid (ready_at M)
  have HF := Lib.hid (And.intro hf ho)
  have HFA := Lib.hid (fun (v : World) (M : Mem w0 (fsL p R S S.used ++ cs) v) => show Calls Try.prog 53 #[pE p] v (fun en w' => en = .returned (.bool (fails S).dead) ∧ Mem w0 (fsL p R (fails S) S.used ++ cs) w') from fs_fails M ha ho.fuse)
  clear h M
  cases hS : S.dead
  case true =>
    have e1 : fsSyncDir S = (S, 13) := by unfold fsSyncDir; rw [if_pos hS]
    rw [e1]
    rw [hS] at HG
    clear e1 HFA
    go_enter Try.func20, Try.ntmps20
    go_wp2_with fail
    refine HG.out.mono ?_
    rintro en w1 ⟨rfl, m1⟩
    have HM := Lib.hid m1
    clear m1 HG
    go_wp2_with fail
    go_ret
    exact ⟨rfl, HM.out.unfs HF.out.1 HF.out.2⟩
  case false =>
    rw [hS] at HG
    cases hd : (fails S).dead
    case true =>
      have e1 : fsSyncDir S = (fails S, 13) := by unfold fsSyncDir; rw [if_neg (by simp [hS]), if_pos hd]
      rw [e1]
      rw [hd] at HFA
      clear e1
      go_enter Try.func20, Try.ntmps20
      go_wp2_with fail
      refine HG.out.mono ?_
      rintro en w1 ⟨rfl, m1⟩
      have HM := Lib.hid m1
      clear m1 HG
      go_wp2_with fail
      refine (HFA.out w1 HM.out).mono ?_
      rintro en w2 ⟨rfl, m2⟩
      have HM2 := Lib.hid m2
      clear m2 HM HFA
      go_wp2_with fail
      go_ret
      exact ⟨rfl, Mem.unfs (S := fails S) HM2.out ⟨HF.out.1.sure, HF.out.1.seen, HF.out.1.nd, HF.out.1.files, HF.out.1.len⟩ (fails_ok HF.out.2)⟩
    case false =>
      have e1 : fsSyncDir S = ({ fails S with sure := S.seen, row := [] }, 0) := by unfold fsSyncDir; rw [if_neg (by simp [hS]), if_neg (by simp [hd])]
      rw [e1]
      rw [hd] at HFA
      clear e1
      go_enter Try.func20, Try.ntmps20
      go_wp2_with fail
      refine HG.out.mono ?_
      rintro en w1 ⟨rfl, m1⟩
      have HM := Lib.hid m1
      clear m1 HG
      go_wp2_with fail
      refine (HFA.out w1 HM.out).mono ?_
      rintro en w2 ⟨rfl, m2⟩
      have HM2 := Lib.hid (m2.bring 3)
      have c6 : w2.cell? ⟨p, 6, none⟩ = some (.map (some R.nm)) := (m2.ob 0 rfl).cell 6 rfl
      clear m2 HM HFA
      go_wp2_with fail
      refine (dir_twin HM2.out (HF.out.2.seen.ok.nd.perm HF.out.1.seen.symm)).mono ?_
      rintro en w3 ⟨b', L', rfl, hp', m3⟩
      have HM3 := Lib.hid m3
      have HP := Lib.hid hp'
      clear m3 hp' HM2 c6
      have k5 : w3.cell? ⟨p, 5, none⟩ = some (.map (some R.sm)) := (HM3.out.ob 2 rfl).cell 5 rfl
      have k7 : w3.cell? ⟨p, 7, none⟩ = some R.v := (HM3.out.ob 2 rfl).cell 7 rfl
      have f5 : w3.frozen? ⟨p, 5, none⟩ = false := (HM3.out.ob 2 rfl).free 5
      have f7 : w3.frozen? ⟨p, 7, none⟩ = false := (HM3.out.ob 2 rfl).free 7
      go_wp2_with fail
      go_ret
      have M4 := ((HM3.out.put 2 rfl 5 (.map (some b'))).put 2 rfl 7 (.slice none 0 0))
      have M5 := ((M4.bring 5).drop.bring 4).drop
      have M6 := ((M5.nilRow 88 4).away 4)
      have M7 := ((M6.bring 3).bring 3)
      refine ⟨rfl, Mem.unfs (S := { fails S with sure := S.seen, row := [] }) (R := ⟨R.fm, b', R.nm, .slice none 0 0, R.Lf, L', R.Ln, R.bs⟩) ?_ ⟨HP.out.trans HF.out.1.seen, HF.out.1.seen, HF.out.1.nd, HF.out.1.files, HF.out.1.len⟩ (syncDir_ok HF.out.2)⟩
      exact M7
theorem fs_Used {p : Nat} {S : Fs} {w0 w : World} {cs : List Chunk} (h : Mem w0 (fsC p S :: cs) w) :
    Calls Try.prog 35 #[pE p] w (fun en w' => en = .returned (nE (fsUsed S)) ∧ Mem w0 (fsC p S :: cs) w') := by
  obtain ⟨R, hf, ho, M⟩ := h.fs
  have HG := Lib.hid (ready_at M)
  have HF := Lib.hid (And.intro hf ho)
  clear h M
  unfold fsUsed
  cases hS : S.dead
  all_goals
    rw [hS] at HG
    go_enter Try.func35, Try.ntmps35
    go_wp2_with fail
    refine HG.out.mono ?_
    rintro en w1 ⟨rfl, m1⟩
    have HM := Lib.hid m1
    have c1 : w1.cell? ⟨p, 2, none⟩ = some (nE S.used) := (m1.ob 0 rfl).cell 2 rfl
    clear m1 HG
    go_wp2_with fail
    go_ret
    exact ⟨rfl, HM.out.unfs HF.out.1 HF.out.2⟩
theorem fs_Room {p : Nat} {S : Fs} {w0 w : World} {cs : List Chunk} (h : Mem w0 (fsC p S :: cs) w) :
    Calls Try.prog 38 #[pE p] w (fun en w' => en = .returned (nE (fsRoom S)) ∧ Mem w0 (fsC p S :: cs) w') := by
  obtain ⟨R, hf, ho, M⟩ := h.fs
  have HG := Lib.hid (ready_at M)
  have HF := Lib.hid (And.intro hf ho)
  clear h M
  unfold fsRoom
  cases hS : S.dead
  all_goals
    rw [hS] at HG
    go_enter Try.func38, Try.ntmps38
    go_wp2_with fail
    refine HG.out.mono ?_
    rintro en w1 ⟨rfl, m1⟩
    have HM := Lib.hid m1
    have c1 : w1.cell? ⟨p, 1, none⟩ = some (nE S.room) := (m1.ob 0 rfl).cell 1 rfl
    clear m1 HG
    go_wp2_with fail
    go_ret
    exact ⟨rfl, HM.out.unfs HF.out.1 HF.out.2⟩
theorem fs_Acts {p : Nat} {S : Fs} {w0 w : World} {cs : List Chunk} (h : Mem w0 (fsC p S :: cs) w) :
    Calls Try.prog 34 #[pE p] w (fun en w' => en = .returned (nE S.acts) ∧ Mem w0 (fsC p S :: cs) w') := by
  obtain ⟨R, hf, ho, M⟩ := h.fs
  have HF := Lib.hid (And.intro hf ho)
  have HM := Lib.hid M
  have c1 : w.cell? ⟨p, 8, none⟩ = some (nE S.acts) := (M.ob 0 rfl).cell 8 rfl
  clear h M
  go_enter Try.func34, Try.ntmps34
  go_wp2_with fail
  go_ret
  exact ⟨rfl, HM.out.unfs HF.out.1 HF.out.2⟩
theorem fs_Dead {p : Nat} {S : Fs} {w0 w : World} {cs : List Chunk} (h : Mem w0 (fsC p S :: cs) w) :
    Calls Try.prog 36 #[pE p] w (fun en w' => en = .returned (.bool S.dead) ∧ Mem w0 (fsC p S :: cs) w') := by
  obtain ⟨R, hf, ho, M⟩ := h.fs
  have HF := Lib.hid (And.intro hf ho)
  have HM := Lib.hid M
  have c1 : w.cell? ⟨p, 10, none⟩ = some (.bool S.dead) := (M.ob 0 rfl).cell 10 rfl
  clear h M
  go_enter Try.func36, Try.ntmps36
  go_wp2_with fail
  go_ret
  exact ⟨rfl, HM.out.unfs HF.out.1 HF.out.2⟩
theorem arm_put {p : Nat} {S : Fs} {R : FsR} {u : Nat} {w0 w : World} {cs : List Chunk} (M : Mem w0 (fsL p R S u ++ cs) w) (q : Nat) : Mem w0 (fsL p R { S with fuse := q } u ++ cs) (w.setCell ⟨p, 9, none⟩ (nE q)) := M.put 0 rfl 9 (nE q)
theorem fs_Arm {p : Nat} {S : Fs} (k : Int) {w0 w : World} {cs : List Chunk} (h : Mem w0 (fsC p S :: cs) w) (hk : k < 9223372036854775808) :
    Calls Try.prog 37 #[pE p, .int .i64 k] w (fun en w' => en = .returned (nE (fsArm S k).2) ∧ Mem w0 (fsC p (fsArm S k).1 :: cs) w') := by
  obtain ⟨R, hf, ho, M⟩ := h.fs
  have HG := Lib.hid (ready_at M)
  have HF := Lib.hid (And.intro hf ho)
  clear h M
  cases hS : S.dead
  case true =>
    have e1 : fsArm S k = (S, 13) := by unfold fsArm; rw [if_pos hS]
    rw [e1]
    rw [hS] at HG
    clear e1
    go_enter Try.func37, Try.ntmps37
    go_wp2_with fail
    refine HG.out.mono ?_
    rintro en w1 ⟨rfl, m1⟩
    have HM := Lib.hid m1
    clear m1 HG
    go_wp2_with fail
    go_ret
    exact ⟨rfl, HM.out.unfs HF.out.1 HF.out.2⟩
  case false =>
    rw [hS] at HG
    by_cases hneg : k < 0
    case pos =>
      have e1 : fsArm S k = (S, 2) := by unfold fsArm; rw [if_neg (by simp [hS]), if_pos hneg]
      rw [e1]
      clear e1
      go_enter Try.func37, Try.ntmps37
      go_wp2_with fail
      refine HG.out.mono ?_
      rintro en w1 ⟨rfl, m1⟩
      have HM := Lib.hid m1
      clear m1 HG
      go_wp2_with fail
      go_ret
      exact ⟨rfl, HM.out.unfs HF.out.1 HF.out.2⟩
    case neg =>
      obtain ⟨q, rfl⟩ : ∃ q : Nat, k = (q : Int) := ⟨k.toNat, by omega⟩
      have e1 : fsArm S q = ({ S with fuse := q }, 0) := by unfold fsArm; rw [if_neg (by simp [hS]), if_neg hneg]; rfl
      rw [e1]
      have hq : q < 9223372036854775808 := by omega
      have hok : FsOk { S with fuse := q } := ⟨HF.out.2.room, HF.out.2.files, HF.out.2.sure, HF.out.2.moves, HF.out.2.rowl, HF.out.2.frow, HF.out.2.flen, hq⟩
      have HOK := Lib.hid hok
      clear hok hq hk
      clear e1
      go_enter Try.func37, Try.ntmps37
      go_wp2_with fail
      refine HG.out.mono ?_
      rintro en w1 ⟨rfl, m1⟩
      have HM := Lib.hid m1
      have c9 : w1.cell? ⟨p, 9, none⟩ = some (nE S.fuse) := (m1.ob 0 rfl).cell 9 rfl
      have f9 : w1.frozen? ⟨p, 9, none⟩ = false := (m1.ob 0 rfl).free 9
      clear m1 HG
      go_wp2_with fail
      go_ret
      have M3 := arm_put HM.out q
      refine ⟨?_, ?_⟩
      · rfl
      exact Mem.unfs (R := R) (S := { S with fuse := q }) M3 ⟨HF.out.1.sure, HF.out.1.seen, HF.out.1.nd, HF.out.1.files, HF.out.1.len⟩ HOK.out
end Go.Proofs.Ythphonkiolmkiaa
/- Layer 14 walked: Write. -/
set_option linter.unusedVariables false
set_option linter.unusedSimpArgs false
namespace Go.Proofs.Ythphonkiolmkiaa
open Go.RowKit
set_option maxRecDepth 100000
set_option maxHeartbeats 8000000

theorem fs_Write {p : Nat} {S : Fs} (s : ByteArray) (k : Int) (b : List UInt8) (A : Option Addr) (cA : Nat) {w0 w : World} {cs : List Chunk} (h : Mem w0 (fsC p S :: cs) w) (ha : S.acts < 1000000000) (hA : ∀ v, Mem w0 (fsC p S :: cs) v → Rd v A (b.map bv)) (hb : b.length ≤ 140737488351232) :
    Calls Try.prog 25 #[pE p, sE s, .int .i64 k, .slice A b.length cA] w (fun en w' => en = .returned (nE (fsWrite S s k b).2) ∧ Mem w0 (fsC p (fsWrite S s k b).1 :: cs) w') := by
  obtain ⟨R, hf, ho, M⟩ := h.fs
  have HA := Lib.hid (fun (v : World) (m : Mem w0 (fsL p R S S.used ++ cs) v) => hA v (m.unfs hf ho))
  have HB := Lib.hid hb
  clear hA hb
  have HG := Lib.hid (fs_get s M hf ho)
  have HF := Lib.hid (And.intro hf ho)
  clear h M
  by_cases he : getE S s = 0
  case neg =>
    have e1 : fsWrite S s k b = (S, getE S s) := by unfold fsWrite; rw [if_pos he]
    rw [e1]
    rw [if_neg he] at HG
    obtain ⟨e, hee⟩ : ∃ e, e = getE S s := ⟨_, rfl⟩
    rw [← hee] at HG he ⊢
    have hne : ((e : Int) != 0) = true := by simp [he]
    clear hee he e1
    go_enter Try.func25, Try.ntmps25
    go_wp2_with fail
    refine HG.out.mono ?_
    rintro en w1 ⟨rfl, m1⟩
    have HM := Lib.hid m1
    clear m1 HG
    go_wp2_with fail
    go_ret
    exact ⟨rfl, HM.out.unfs HF.out.1 HF.out.2⟩
  case pos =>
    obtain ⟨n, x, bb, hn, hN, hbb, hx, hat, hxo, hbe⟩ := get_ok hf ho he
    rw [if_pos he, hbe, he] at HG
    have HX := Lib.hid (And.intro hbb (And.intro hx (And.intro hxo.now ha)))
    have hx2 : (x.now.length : Int) ≤ 1048576 := by have : x.now.length ≤ 1048576 := hxo.now; omega
    by_cases hbad : k < 0 ∨ (x.now.length : Int) < k
    case pos =>
      have e1 : fsWrite S s k b = (S, 2) := by unfold fsWrite; rw [if_neg (by simp [he]), hN, hat, if_pos hbad]
      rw [e1]
      have hb2 : k < 0 ∨ (¬ k < 0 ∧ (x.now.length : Int) < k) := by omega
      clear e1 hbad hn hN hbb hx hat hxo hbe he
      go_enter Try.func25, Try.ntmps25
      go_wp2_with fail
      refine HG.out.mono ?_
      rintro en w1 ⟨rfl, m1⟩
      have HM := Lib.hid m1
      clear m1 HG
      obtain ⟨R', _, hob, _, _⟩ := HM.out.seeFile 5 rfl HX.out.1 HX.out.2.1
      have n1 : w1.cell? ⟨bb, 1, none⟩ = some (.slice R'.n x.now.length R'.nc) := hob.cell 1 rfl
      clear hob
      rcases hb2 with h1 | ⟨h1, h2⟩
      all_goals
        go_wp2_with fail
        go_ret
        exact ⟨rfl, HM.out.unfs HF.out.1 HF.out.2⟩
    case neg =>
      obtain ⟨q, rfl⟩ : ∃ q : Nat, k = (q : Int) := ⟨k.toNat, by omega⟩
      have h1 : ¬ ((q : Int) < 0) := by omega
      have h2 : ¬ ((x.now.length : Int) < (q : Int)) := by omega
      have hq : q ≤ x.now.length := by omega
      have hi1 : S.room ≤ 1048576 := ho.room
      have hi2 : S.used ≤ 67108864 := used_le ho.files ho.seen
      have hbl : b.length ≤ 140737488351232 := HB.out
      obtain ⟨more, hmore⟩ : ∃ more : Int, more = (b.length : Int) - ((x.now.length : Int) - (q : Int)) := ⟨_, rfl⟩
      have HJ := Lib.hid (show (b.length : Int) - ((x.now.length : Int) - (q : Int)) = more from hmore.symm)
      have ww1 : IntKind.i64.wrap ((x.now.length : Int) - (q : Int)) = (x.now.length : Int) - (q : Int) := by rw [IntKind.wrap_i64]; omega
      have wx1 : wrap64 ((x.now.length : Int) - (q : Int)) = (x.now.length : Int) - (q : Int) := by unfold wrap64; omega
      have ww2 : IntKind.i64.wrap ((b.length : Int) - ((x.now.length : Int) - (q : Int))) = more := by rw [IntKind.wrap_i64]; omega
      have wx2 : wrap64 ((b.length : Int) - ((x.now.length : Int) - (q : Int))) = more := by unfold wrap64; omega
      have ww3 : IntKind.i64.wrap ((S.room : Int) - (S.used : Int)) = (S.room : Int) - (S.used : Int) := by rw [IntKind.wrap_i64]; omega
      have wx3 : wrap64 ((S.room : Int) - (S.used : Int)) = (S.room : Int) - (S.used : Int) := by unfold wrap64; omega
      by_cases hfull : x.now.length < b.length + q ∧ S.room + x.now.length < b.length + q + S.used
      case pos =>
        have e1 : fsWrite S s q b = (S, 9) := by unfold fsWrite; rw [if_neg (by simp [he]), hN, hat, if_neg hbad]; exact if_pos hfull
        rw [e1]
        have g1 : (0 : Int) < more := by omega
        have g2 : (S.room : Int) - (S.used : Int) < more := by omega
        clear e1 hbad hn hN hbb hx hat hxo hbe he hq hfull hmore hi1 hi2 hbl
        go_enter Try.func25, Try.ntmps25
        go_wp2_with fail
        refine HG.out.mono ?_
        rintro en w1 ⟨rfl, m1⟩
        have HM := Lib.hid m1
        clear m1 HG
        obtain ⟨R', _, hob, _, _⟩ := HM.out.seeFile 5 rfl HX.out.1 HX.out.2.1
        have n1 : w1.cell? ⟨bb, 1, none⟩ = some (.slice R'.n x.now.length R'.nc) := hob.cell 1 rfl
        clear hob
        have c1 : w1.cell? ⟨p, 1, none⟩ = some (nE S.room) := (HM.out.ob 0 rfl).cell 1 rfl
        have c2 : w1.cell? ⟨p, 2, none⟩ = some (nE S.used) := (HM.out.ob 0 rfl).cell 2 rfl
        go_upto_region 7 with (fail)
        go_region
        have HM2 := Lib.hid HM.out.drew
        go_wp2_with fail
        go_ret
        exact ⟨rfl, HM2.out.unfs HF.out.1 HF.out.2⟩
      case neg =>
        have e1 : fsWrite S s q b = endE (fails (change S (n - 1) ⟨false, q, b⟩)) := by unfold fsWrite; rw [if_neg (by simp [he]), hN, hat, if_neg hbad]; exact if_neg hfull
        rw [e1]
        have hch := write_ch (b := b) (k := q) ho hn (by rw [hat]; exact hq) (by rw [hat]; exact hfull)
        rw [hat] at hch
        have HC := Lib.hid hch
        have hc : ¬ ((0 : Int) < more) ∨ ((0 : Int) < more ∧ ¬ ((S.room : Int) - (S.used : Int) < more)) := by omega
        clear e1 hbad hn hN hbb hx hat hxo hbe he hq hfull hch hmore hi1 hi2 hbl
        obtain ⟨S2, hS2⟩ : ∃ S2, S2 = endE (fails (change S (n - 1) ⟨false, q, b⟩)) := ⟨_, rfl⟩
        have HS2 := Lib.hid hS2
        rw [← hS2]
        clear hS2
        go_enter Try.func25, Try.ntmps25
        go_wp2_with fail
        refine HG.out.mono ?_
        rintro en w1 ⟨rfl, m1⟩
        have HM := Lib.hid m1
        clear m1 HG
        obtain ⟨R', _, hob, _, _⟩ := HM.out.seeFile 5 rfl HX.out.1 HX.out.2.1
        have n1 : w1.cell? ⟨bb, 1, none⟩ = some (.slice R'.n x.now.length R'.nc) := hob.cell 1 rfl
        clear hob
        have c1 : w1.cell? ⟨p, 1, none⟩ = some (nE S.room) := (HM.out.ob 0 rfl).cell 1 rfl
        have c2 : w1.cell? ⟨p, 2, none⟩ = some (nE S.used) := (HM.out.ob 0 rfl).cell 2 rfl
        go_upto_region 7 with (fail)
        go_cut [56] (fun t wx => t = .bool false ∧ Hid (Mem w0 (fsL p R S S.used ++ cs) wx))
        case first =>
          have HM2 := Lib.hid HM.out.drew
          clear n1
          have hc2 : (decide ((0 : Int) < more) = false ∧ ¬ (0 : Int) < more) ∨ (decide ((0 : Int) < more) = true ∧ (0 : Int) < more ∧ ¬ ((S.room : Int) - (S.used : Int) < more)) := by
            rcases hc with g1 | ⟨g1, g2⟩
            · exact .inl ⟨decide_eq_false (by omega), by omega⟩
            · exact .inr ⟨decide_eq_true g1, g1, by omega⟩
          clear hc
          rcases hc2 with ⟨g0, g1⟩ | ⟨g0, g1, g2⟩
          all_goals
            go_quiet (fail)
            all_goals
              go_wp2_with fail
              go_meet
              case rel => exact ⟨rfl, HM.out.drewN _⟩
        case rest =>
          obtain ⟨rfl, HM2⟩ := hcut
          clear HM c1 c2 hc n1
          have HN := Lib.hid (App.nil wc wc.heap.size 5 1)
          go_wp2_with (at_builtin; go_must (refine append_row rfl _ _ 22 5 (.int .u8 0) 1 1 rfl Try.underlying22 Try.infoU8 rfl (by decide) wc.heap.size HN.out (by rfl) (by rfl) (HA.out _ HM2.out) (by simp) (bv_all b) (by have := HB.out; omega) (by have := HB.out; omega) (Nat.le_refl _) ?_); intro v5 w5 hown5 hgr5 hat5; obtain ⟨A5, c5, rfl, hcc5⟩ := hown5.slice; have M5 := HM2.out.newRow ((Bl.refl _).grown hgr5 (by intro q hq; cases hq)) hown5)
          refine (fs_change (c := ⟨false, q, b⟩) (i := n - 1) (B := A5) (capB := c5) (by simpa using M5) HF.out.1 HF.out.2 HX.out.1 HX.out.2.1 HC.out HX.out.2.2.2).mono ?_
          rintro en w6 ⟨rfl, M6⟩
          go_wp2_with fail
          go_ret
          exact ⟨by rw [HS2.out]; rfl, by rw [HS2.out]; exact M6⟩
end Go.Proofs.Ythphonkiolmkiaa
/- Layer 14 walked: Size. -/
set_option linter.unusedVariables false
set_option linter.unusedSimpArgs false
namespace Go.Proofs.Ythphonkiolmkiaa
open Go.RowKit
set_option maxRecDepth 100000
set_option maxHeartbeats 8000000

theorem fs_Size {p : Nat} {S : Fs} (s : ByteArray) {w0 w : World} {cs : List Chunk} (h : Mem w0 (fsC p S :: cs) w) :
    Calls Try.prog 47 #[pE p, sE s] w (fun en w' => en = .returned (.tuple #[nE (fsSize S s).1, nE (fsSize S s).2]) ∧ Mem w0 (fsC p S :: cs) w') := by
  obtain ⟨R, hf, ho, M⟩ := h.fs
  have HG := Lib.hid (fs_get s M hf ho)
  have HF := Lib.hid (And.intro hf ho)
  clear h M
  by_cases he : getE S s = 0
  case neg =>
    have e1 : fsSize S s = (0, getE S s) := by unfold fsSize; rw [if_pos he]
    rw [e1]
    rw [if_neg he] at HG
    obtain ⟨e, hee⟩ : ∃ e, e = getE S s := ⟨_, rfl⟩
    rw [← hee] at HG he ⊢
    have hne : ((e : Int) != 0) = true := by simp [he]
    clear hee he e1
    go_enter Try.func47, Try.ntmps47
    go_wp2_with fail
    refine HG.out.mono ?_
    rintro en w1 ⟨rfl, m1⟩
    have HM := Lib.hid m1
    clear m1 HG
    go_wp2_with fail
    go_ret2
    exact ⟨rfl, HM.out.unfs HF.out.1 HF.out.2⟩
  case pos =>
    obtain ⟨n, x, bb, hn, hN, hbb, hx, hat, hxo, hbe⟩ := get_ok hf ho he
    rw [if_pos he, hbe, he] at HG
    have HX := Lib.hid (And.intro hbb hx)
    have e1 : fsSize S s = (x.now.length, 0) := by unfold fsSize; rw [if_neg (by simp [he]), hN, hat]
    rw [e1]
    clear e1 hn hN hbb hx hat hxo hbe he
    go_enter Try.func47, Try.ntmps47
    go_wp2_with fail
    refine HG.out.mono ?_
    rintro en w1 ⟨rfl, m1⟩
    have HM := Lib.hid m1
    obtain ⟨R', _, hob, _, _⟩ := m1.seeFile 5 rfl HX.out.1 HX.out.2
    have n1 : w1.cell? ⟨bb, 1, none⟩ = some (.slice R'.n x.now.length R'.nc) := hob.cell 1 rfl
    clear m1 hob HG
    go_wp2_with fail
    go_ret2
    exact ⟨rfl, HM.out.unfs HF.out.1 HF.out.2⟩
end Go.Proofs.Ythphonkiolmkiaa
/- Layer 14 walked: Create. -/
set_option linter.unusedVariables false
set_option linter.unusedSimpArgs false
namespace Go.Proofs.Ythphonkiolmkiaa
open Go.RowKit
set_option maxRecDepth 100000
set_option maxHeartbeats 8000000

theorem filesL_snoc {bs : List Nat} {fl : List Fl} (h : bs.length = fl.length) (b : Nat) (x : Fl) : filesL (bs ++ [b]) (fl ++ [x]) = filesL bs fl ++ [fileC b x] := by
  unfold filesL
  rw [List.zip_append h, List.map_append]; rfl
theorem Mem.togAdd {w0 w : World} {l cs : List Chunk} {A : Chunk} (h : Mem w0 (tog l :: A :: cs) w) : Mem w0 (tog (l ++ [A]) :: cs) w := by
  have h1 := h.open_
  have e : l ++ A :: cs = (l ++ [A]) ++ cs := by simp
  rw [e] at h1
  exact h1.close
theorem fit_new {R : FsR} {S : Fs} (h : FsFit R S) (b0 : Nat) (x : Fl) : FsFit ⟨R.fm, R.sm, R.nm, R.v, mPut R.Lf (S.fl.length + 1) b0, R.Ls, R.Ln, R.bs ++ [b0]⟩ { S with fl := S.fl ++ [x] } := by
  refine ⟨h.sure, h.seen, h.nd.mPut _ _, fun n b => ?_, by simp [h.len]⟩
  simp only
  rw [mem_mPut h.nd, h.files]
  simp only [Prod.mk.injEq]
  rw [← h.len]
  constructor
  · rintro (⟨rfl, rfl⟩ | ⟨⟨h1, h2⟩, h3⟩)
    · exact ⟨by omega, by simp⟩
    · have hl := (List.getElem?_eq_some_iff.1 h2).1
      exact ⟨h1, by rw [List.getElem?_append_left hl]; exact h2⟩
  · rintro ⟨h1, h2⟩
    have hl := (List.getElem?_eq_some_iff.1 h2).1
    rw [List.length_append, List.length_singleton] at hl
    by_cases e : n = R.bs.length + 1
    · subst e
      left
      simp at h2
      exact ⟨rfl, h2.symm⟩
    · right
      rw [List.getElem?_append_left (by omega)] at h2
      exact ⟨⟨h1, h2⟩, e⟩
abbrev zeroFile : Array Value := #[.slice none 0 0, .slice none 0 0, .slice none 0 0]
/-- A file more. -/
theorem fs_more {p b0 : Nat} {R : FsR} {S : Fs} {u : Nat} {w0 w : World} {cs : List Chunk} (hf : FsFit R S)
    (M : Mem w0 (blk b0 85 zeroFile :: blk p 76 (fsCells R S.room u (S.fl.length + 1) S.acts S.fuse S.dead) :: mapC R.fm (.int .i64) nE pE (mPut R.Lf (S.fl.length + 1) b0) :: dirC R.sm R.Ls :: dirC R.nm R.Ln :: row 88 4 R.v S.row.length (S.row.flatMap mvv) :: tog (filesL R.bs S.fl) :: cs) w) :
    Mem w0 (fsL p ⟨R.fm, R.sm, R.nm, R.v, mPut R.Lf (S.fl.length + 1) b0, R.Ls, R.Ln, R.bs ++ [b0]⟩ { S with fl := S.fl ++ [⟨[], [], []⟩] } u ++ cs) w := by
  have M1 := ((M.nilRow 93 3).away 1).noPool.away 2
  have M2 := Mem.unfile (b := b0) (R := ⟨none, 0, none, 0, .slice none 0 0, [], fun _ l => l = []⟩) (x := ⟨[], [], []⟩) M1 ⟨rfl, rfl, Nat.le_refl _, Nat.le_refl _, rfl, fun q hq => by cases hq⟩
  have M3 := (Mem.togAdd (M2.bring 6)).away 5
  rw [← filesL_snoc hf.len] at M3
  unfold fsL
  have e : (S.fl ++ [(⟨[], [], []⟩ : Fl)]).length = S.fl.length + 1 := by simp
  simp only [e]
  exact M3
theorem fs_Create {p : Nat} {S : Fs} (s : ByteArray) {w0 w : World} {cs : List Chunk} (h : Mem w0 (fsC p S :: cs) w) (ha : S.acts < 1000000000) (hs : s.size ≤ 281474976710656) :
    Calls Try.prog 17 #[pE p, sE s] w (fun en w' => en = .returned (nE (fsCreate S s).2) ∧ Mem w0 (fsC p (fsCreate S s).1 :: cs) w') := by
  obtain ⟨R, hf, ho, M⟩ := h.fs
  have HG := Lib.hid (ready_at M)
  have HF := Lib.hid (And.intro hf ho)
  have HNM := Lib.hid (fun v => fs_isName s v hs)
  clear h M
  cases hS : S.dead
  case true =>
    have e1 : fsCreate S s = (S, 13) := by unfold fsCreate; rw [if_pos hS]
    rw [e1]
    rw [hS] at HG
    clear e1
    go_enter Try.func17, Try.ntmps17
    go_wp2_with fail
    refine HG.out.mono ?_
    rintro en w1 ⟨rfl, m1⟩
    have HM := Lib.hid m1
    clear m1 HG
    go_wp2_with fail
    go_ret
    exact ⟨rfl, HM.out.unfs HF.out.1 HF.out.2⟩
  case false =>
    rw [hS] at HG
    cases hnm : isNm s
    case false =>
      have e1 : fsCreate S s = (S, 2) := by unfold fsCreate; rw [if_neg (by simp [hS]), if_pos hnm]
      rw [e1]
      rw [hnm] at HNM
      clear e1
      go_enter Try.func17, Try.ntmps17
      go_wp2_with fail
      refine HG.out.mono ?_
      rintro en w1 ⟨rfl, m1⟩
      have HM := Lib.hid m1
      clear m1 HG
      go_wp2_with fail
      refine (HNM.out w1).mono ?_
      rintro en w2 ⟨rfl, hb2⟩
      have HM2 := Lib.hid (HM.out.bl hb2)
      clear hb2 HM HNM
      go_wp2_with fail
      go_ret
      exact ⟨rfl, HM2.out.unfs HF.out.1 HF.out.2⟩
    case true =>
      rw [hnm] at HNM
      have HL := Lib.hid (fun (v : World) (M : Mem w0 (fsL p R S S.used ++ cs) v) => dir_get2 (M.map' 3 rfl) s)
      rw [mGet_perm (ho.seen.ok.nd.perm hf.seen.symm) hf.seen s] at HL
      cases hg : mGet S.seen s with
      | some n =>
        have e1 : fsCreate S s = (S, 8) := by unfold fsCreate; rw [if_neg (by simp [hS]), if_neg (by simp [hnm]), if_pos (by simp [hg])]
        rw [e1]
        rw [hg] at HL
        clear e1
        go_enter Try.func17, Try.ntmps17
        go_wp2_with fail
        refine HG.out.mono ?_
        rintro en w1 ⟨rfl, m1⟩
        have HM := Lib.hid m1
        clear m1 HG
        go_wp2_with fail
        refine (HNM.out w1).mono ?_
        rintro en w2 ⟨rfl, hb2⟩
        have HM2 := Lib.hid (HM.out.bl hb2)
        clear hb2 HM HNM
        have c6 : w2.cell? ⟨p, 6, none⟩ = some (.map (some R.nm)) := (HM2.out.ob 0 rfl).cell 6 rfl
        have l1 := HL.out w2 HM2.out
        simp only [Option.getD_some, Option.isSome_some] at l1
        go_wp2_with fail
        go_ret
        exact ⟨rfl, HM2.out.unfs HF.out.1 HF.out.2⟩
      | none =>
        rw [hg] at HL
        have HLEN := Lib.hid (fun (v : World) (M : Mem w0 (fsL p R S S.used ++ cs) v) => (M.map' 3 rfl).len map_dir_u 3)
        have hll : R.Ln.length = S.seen.length := hf.seen.length_eq
        rw [hll] at HLEN
        by_cases hfull : 64 ≤ S.seen.length
        case pos =>
          have e1 : fsCreate S s = (S, 3) := by unfold fsCreate; rw [if_neg (by simp [hS]), if_neg (by simp [hnm]), if_neg (by simp [hg]), if_pos hfull]
          rw [e1]
          have i1 : (64 : Int) ≤ (S.seen.length : Int) := by omega
          clear e1 hfull
          go_enter Try.func17, Try.ntmps17
          go_wp2_with fail
          refine HG.out.mono ?_
          rintro en w1 ⟨rfl, m1⟩
          have HM := Lib.hid m1
          clear m1 HG
          go_wp2_with fail
          refine (HNM.out w1).mono ?_
          rintro en w2 ⟨rfl, hb2⟩
          have HM2 := Lib.hid (HM.out.bl hb2)
          clear hb2 HM HNM
          have c6 : w2.cell? ⟨p, 6, none⟩ = some (.map (some R.nm)) := (HM2.out.ob 0 rfl).cell 6 rfl
          have l1 := HL.out w2 HM2.out
          have l2 := HLEN.out w2 HM2.out
          simp only [Option.getD_none, Option.isSome_none] at l1
          go_wp2_with fail
          go_ret
          exact ⟨rfl, HM2.out.unfs HF.out.1 HF.out.2⟩
        case neg =>
          have e1 : fsCreate S s = endE (fails (turn { S with fl := S.fl ++ [⟨[], [], []⟩] } ⟨0, .empty, s, S.fl.length + 1⟩)) := by unfold fsCreate; rw [if_neg (by simp [hS]), if_neg (by simp [hnm]), if_neg (by simp [hg]), if_neg hfull]
          rw [e1]
          obtain ⟨S2, hS2⟩ : ∃ S2, S2 = endE (fails (turn { S with fl := S.fl ++ [⟨[], [], []⟩] } ⟨0, .empty, s, S.fl.length + 1⟩)) := ⟨_, rfl⟩
          have HS2 := Lib.hid hS2
          rw [← hS2]
          have i1 : ¬ ((64 : Int) ≤ (S.seen.length : Int)) := by omega
          have HQ := Lib.hid (And.intro ha (show S.seen.length < 64 by omega))
          have i2 : (S.fl.length : Int) ≤ 1000000064 := by have := ho.flen; omega
          clear e1 hfull hS2 ha hll hs
          go_enter Try.func17, Try.ntmps17
          go_wp2_with fail
          refine HG.out.mono ?_
          rintro en w1 ⟨rfl, m1⟩
          have HM := Lib.hid m1
          clear m1 HG
          go_wp2_with fail
          refine (HNM.out w1).mono ?_
          rintro en w2 ⟨rfl, hb2⟩
          have HM2 := Lib.hid (HM.out.bl hb2)
          clear hb2 HM HNM
          have c6 : w2.cell? ⟨p, 6, none⟩ = some (.map (some R.nm)) := (HM2.out.ob 0 rfl).cell 6 rfl
          have c4 : w2.cell? ⟨p, 4, none⟩ = some (nE S.fl.length) := (HM2.out.ob 0 rfl).cell 4 rfl
          have f4 : w2.frozen? ⟨p, 4, none⟩ = false := (HM2.out.ob 0 rfl).free 4
          have l1 := HL.out w2 HM2.out
          have l2 := HLEN.out w2 HM2.out
          simp only [Option.getD_none, Option.isSome_none] at l1
          have HM3 := Lib.hid (HM2.out.put 0 rfl 4 (.int .i64 ((S.fl.length : Int) + 1)))
          go_upto_region 12 with (fail)
          generalize w2.setCell ⟨p, 4, none⟩ (.int .i64 ((S.fl.length : Int) + 1)) = v at HM3 ⊢
          clear HM2 c6 c4 f4 l1 l2 i1 HL HLEN
          go_cut [] (fun wx => ∃ b0, Hid (Mem w0 (fsL p ⟨R.fm, R.sm, R.nm, R.v, mPut R.Lf (S.fl.length + 1) b0, R.Ls, R.Ln, R.bs ++ [b0]⟩ { S with fl := S.fl ++ [⟨[], [], []⟩] } S.used ++ cs) wx))
          case first =>
            have ma := HM3.out.alloc (.cells zeroFile 85)
            have c3 : v.cell? ⟨p, 3, none⟩ = some (.map (some R.fm)) := (HM3.out.ob 0 rfl).cell 3 rfl
            have c4 : v.cell? ⟨p, 4, none⟩ = some (nE (S.fl.length + 1)) := (HM3.out.ob 0 rfl).cell 4 rfl
            have d3 : (v.alloc (.cells zeroFile 85)).cell? ⟨p, 3, none⟩ = some (.map (some R.fm)) := (ma.ob 1 rfl).cell 3 rfl
            have d4 : (v.alloc (.cells zeroFile 85)).cell? ⟨p, 4, none⟩ = some (nE (S.fl.length + 1)) := (ma.ob 1 rfl).cell 4 rfl
            obtain ⟨w5, hr5, hm5, hc5, hs5⟩ := (ma.drew.map' 2 rfl).update intEnc map_files_u int_u (S.fl.length + 1) v.heap.size
            have M5 := ma.drew.mapSet 2 rfl hm5 hc5
            have HM5 := Lib.hid (fs_more (b0 := v.heap.size) HF.out.1 M5)
            clear ma hm5 hc5 hs5 M5 HM3
            unfold zeroFile at *
            go_region
            all_goals
              go_wp2_with fail
              go_meet
              case rel => exact ⟨_, HM5.out⟩
          case rest =>
            obtain ⟨b0, HM5⟩ := hcut
            clear HM3
            have c4 : wc.cell? ⟨p, 4, none⟩ = some (nE (S.fl.length + 1)) := by
              have h := (HM5.out.ob 0 rfl).cell 4 rfl
              have e : (S.fl ++ [(⟨[], [], []⟩ : Fl)]).length = S.fl.length + 1 := by simp
              rw [← e]
              exact h
            go_wp2_with fail
            refine (fs_turn (m := ⟨0, .empty, s, S.fl.length + 1⟩) HM5.out (fit_new HF.out.1 b0 ⟨[], [], []⟩) (create_ok HF.out.2 HQ.out.2) (HF.out.2.seen.mono (by simp)) (.inl ⟨rfl, by simp, by simp, HQ.out.2⟩) HQ.out.1 HF.out.2.fuse HF.out.2.rowl).mono ?_
            rintro en w6 ⟨rfl, M6⟩
            go_wp2_with fail
            go_ret
            exact ⟨by rw [HS2.out, hS]; rfl, by rw [HS2.out]; exact M6⟩
end Go.Proofs.Ythphonkiolmkiaa
/- Layer 14 walked: Read. -/
set_option linter.unusedVariables false
set_option linter.unusedSimpArgs false
namespace Go.Proofs.Ythphonkiolmkiaa
open Go.RowKit
set_option maxRecDepth 100000
set_option maxHeartbeats 8000000

theorem run_min_i64 {P : Program} (ats : Array TypeId) (ty : TypeId) (a b : Int) (w : World) : (Builtin.min_ ats ty #[.int .i64 a, .int .i64 b]).run P w = .ok (.int .i64 (min a b)) w := by
  rcases Int.lt_or_le b a with h | h
  · rw [Int.min_eq_right (by omega)]
    simp [Builtin.min_, Builtin.min2, Result.andThen, h]
  · rw [Int.min_eq_left h]
    have h2 : ¬ b < a := by omega
    simp [Builtin.min_, Builtin.min2, Result.andThen, h2]
def RetRead (w0 : World) (p : Nat) (S : Fs) (cs : List Chunk) (r : List UInt8 × Nat) (en : Ending) (w' : World) : Prop :=
  ∃ A c, en = .returned (.tuple #[.slice A r.1.length c, nE r.2]) ∧ Mem w0 (row 5 1 (.slice A r.1.length c) r.1.length (r.1.map bv) :: fsC p S :: cs) w'
theorem fs_Read {p : Nat} {S : Fs} (s : ByteArray) (k n : Int) {w0 w : World} {cs : List Chunk} (h : Mem w0 (fsC p S :: cs) w) :
    Calls Try.prog 22 #[pE p, sE s, .int .i64 k, .int .i64 n] w (RetRead w0 p S cs (fsRead S s k n)) := by
  obtain ⟨R, hf, ho, M⟩ := h.fs
  have HG := Lib.hid (fs_get s M hf ho)
  have HF := Lib.hid (And.intro hf ho)
  clear h M
  by_cases he : getE S s = 0
  case neg =>
    have e1 : fsRead S s k n = ([], getE S s) := by unfold fsRead; rw [if_pos he]
    rw [e1]
    rw [if_neg he] at HG
    obtain ⟨e, hee⟩ : ∃ e, e = getE S s := ⟨_, rfl⟩
    rw [← hee] at HG he ⊢
    have hne : ((e : Int) != 0) = true := by simp [he]
    clear hee he e1
    go_enter Try.func22, Try.ntmps22
    go_wp2_with fail
    refine HG.out.mono ?_
    rintro en w1 ⟨rfl, m1⟩
    have HM := Lib.hid m1
    clear m1 HG
    go_wp2_with fail
    go_ret2
    exact ⟨none, 0, rfl, (HM.out.unfs HF.out.1 HF.out.2).nilRow _ _⟩
  case pos =>
    obtain ⟨i, x, bb, hn, hN, hbb, hx, hat, hxo, hbe⟩ := get_ok hf ho he
    rw [if_pos he, hbe, he] at HG
    have HX := Lib.hid (And.intro hbb hx)
    have hx2 : (x.now.length : Int) ≤ 1048576 := by have : x.now.length ≤ 1048576 := hxo.now; omega
    by_cases hbad : k < 0 ∨ (x.now.length : Int) < k ∨ n < 0
    case pos =>
      have e1 : fsRead S s k n = ([], 2) := by unfold fsRead; rw [if_neg (by simp [he]), hN, hat, if_pos hbad]
      rw [e1]
      have hb2 : k < 0 ∨ (¬ k < 0 ∧ (x.now.length : Int) < k) ∨ (¬ k < 0 ∧ ¬ (x.now.length : Int) < k ∧ n < 0) := by omega
      clear e1 hbad hn hN hbb hx hat hxo hbe he
      go_enter Try.func22, Try.ntmps22
      go_wp2_with fail
      refine HG.out.mono ?_
      rintro en w1 ⟨rfl, m1⟩
      have HM := Lib.hid m1
      obtain ⟨R', _, hob, _, _⟩ := m1.seeFile 5 rfl HX.out.1 HX.out.2
      have n1 : w1.cell? ⟨bb, 1, none⟩ = some (.slice R'.n x.now.length R'.nc) := hob.cell 1 rfl
      clear m1 HG hob
      rcases hb2 with h1 | ⟨h1, h2⟩ | ⟨h1, h2, h3⟩
      all_goals
        go_wp2_with fail
        go_ret2
        exact ⟨none, 0, rfl, (HM.out.unfs HF.out.1 HF.out.2).nilRow _ _⟩
    case neg =>
      obtain ⟨q, rfl⟩ : ∃ q : Nat, k = (q : Int) := ⟨k.toNat, by omega⟩
      obtain ⟨n, rfl⟩ : ∃ m : Nat, n = (m : Int) := ⟨n.toNat, by omega⟩
      have e1 : fsRead S s q n = ((x.now.drop q).take (min n (x.now.length - q)), 0) := by
        unfold fsRead
        rw [if_neg (by simp [he]), hN, hat, if_neg hbad]
        show ((x.now.drop q).take n, 0) = _
        rw [← List.length_drop, ← List.take_take, List.take_length]
      rw [e1]
      obtain ⟨m, hm⟩ : ∃ m, m = min n (x.now.length - q) := ⟨_, rfl⟩
      rw [← hm]
      have h1 : ¬ ((q : Int) < 0) := by omega
      have h2 : ¬ ((x.now.length : Int) < (q : Int)) := by omega
      have h3 : ¬ ((n : Int) < 0) := by omega
      have hq : q + m ≤ x.now.length := by omega
      have mm : min (n : Int) ((x.now.length : Int) - (q : Int)) = (m : Int) := by omega
      have ww1 : IntKind.i64.wrap ((x.now.length : Int) - (q : Int)) = (x.now.length : Int) - (q : Int) := by rw [IntKind.wrap_i64]; omega
      have wx1 : wrap64 ((x.now.length : Int) - (q : Int)) = (x.now.length : Int) - (q : Int) := by unfold wrap64; omega
      have ww2 : IntKind.i64.wrap ((q : Int) + (m : Int)) = (q : Int) + (m : Int) := by rw [IntKind.wrap_i64]; omega
      have wx2 : wrap64 ((q : Int) + (m : Int)) = (q : Int) + (m : Int) := by unfold wrap64; omega
      clear e1 hbad hn hN hbb hx hat hxo hbe he hm
      go_enter Try.func22, Try.ntmps22
      go_wp2_with fail
      refine HG.out.mono ?_
      rintro en w1 ⟨rfl, m1⟩
      have HM := Lib.hid m1
      obtain ⟨R', hfr, hob, _, hrd⟩ := m1.seeFile 5 rfl HX.out.1 HX.out.2
      have n1 : w1.cell? ⟨bb, 1, none⟩ = some (.slice R'.n x.now.length R'.nc) := hob.cell 1 rfl
      have hcap := hfr.nc
      clear m1 HG hob
      go_upto_region 6 with (fail)
      have s1 := run_cut (P := Try.prog) (w := w1.drew) 22 5 1 Try.underlying22 Try.sizeU8 R'.n x.now.length R'.nc (some (.int .i64 (q : Int))) (some (.int .i64 ((q : Int) + (m : Int)))) none q (q + m) R'.nc (by have := bounds_lh (P := Try.prog) (w := w1.drew) x.now.length R'.nc .i64 .i64 (q : Int) ((q : Int) + (m : Int)) (by omega) (by omega) (by omega); rw [show ((q : Int) + (m : Int)).toNat = q + m by omega] at this; simpa using this)
      have s2 := run_min_i64 (P := Try.prog) #[3, 3] 3 (n : Int) ((x.now.length : Int) - (q : Int)) w1.drew
      rw [mm] at s2
      rw [Nat.add_sub_cancel_left] at s1
      have HRD := Lib.hid ((hrd.bl (Bl.refl _).drew).cut 1 q R'.nc m (by intro e; omega))
      have HL := Lib.hid (show ((x.now.drop q).take m).length = m by rw [List.length_take, List.length_drop]; omega)
      have hm2 : m ≤ 1048576 := by omega
      have HN := Lib.hid (App.nil w1.drew w1.drew.heap.size 5 1)
      have HM2 := Lib.hid HM.out.drew
      have HLN := Lib.hid (show (((x.now.map bv).drop (q * 1)).take m).length = m * 1 by rw [List.length_take, List.length_drop, List.length_map]; omega)
      clear hrd hcap hfr HM
      go_still_tail 17, (by kernel_rfl)
      change wpList _ _ _ _ _ w1.drew
      clear s1 s2 n1
      generalize w1.drew = v at HM2 HN HRD ⊢
      go_wp2_with (at_builtin; go_must (refine append_row rfl _ _ 22 5 (.int .u8 0) 1 1 rfl Try.underlying22 Try.infoU8 rfl (by decide) v.heap.size HN.out (by rfl) (by rfl) HRD.out HLN.out (by intro u hu; exact bv_all x.now u (List.mem_of_mem_drop (List.mem_of_mem_take hu))) (by omega) (by omega) (Nat.le_refl _) ?_); intro v5 w5 hown5 hgr5 hat5; obtain ⟨A5, c5, rfl, hcc5⟩ := hown5.slice)
      go_ret2
      have M5 := (HM2.out.unfs HF.out.1 HF.out.2).newRow ((Bl.refl _).grown hgr5 (by intro q hq; cases hq)) hown5
      have e5 : [] ++ ((x.now.map bv).drop (q * 1)).take m = ((x.now.drop q).take m).map bv := by rw [Nat.mul_one, List.nil_append, List.map_take, List.map_drop]
      rw [e5, Nat.zero_add] at M5
      refine ⟨A5, c5, ?_, ?_⟩
      · rw [HL.out, ← Nat.zero_add m]; rfl
      · rw [HL.out]; exact M5
end Go.Proofs.Ythphonkiolmkiaa
/- The library's contracts, laid at this program (numbers filled in by names). -/
set_option linter.unusedVariables false
set_option linter.unusedSimpArgs false
namespace Go.Proofs.Ythphonkiolmkiaa
open Go.Shelf
def lays192_ren : Go.Shelf.Ren := ⟨fun | 192 => 84 | 190 => 95 | 125 => 97 | 258 => 96 | 128 => 107 | 129 => 108 | 302 => 98 | 303 => 99 | 304 => 100 | 305 => 101 | 306 => 102 | 307 => 103 | 308 => 104 | 309 => 105 | 310 => 106 | 333 => 109 | 329 => 110 | 330 => 111 | 334 => 112 | 335 => 113 | 336 => 114 | 344 => 115 | n => n, fun | 31 => 46 | 0 => 0 | 9 => 9 | 3 => 3 | 46 => 130 | 51 => 140 | 53 => 95 | 4 => 4 | 183 => 133 | 182 => 132 | 131 => 81 | 5 => 5 | 218 => 142 | 222 => 146 | 228 => 148 | 229 => 149 | n => n, fun n => n⟩
theorem lays192 : Go.Proofs.Lays.n192 Try.prog lays192_ren := {
  mixed := by kernel_rfl
  f125 := Try.func97.trans (congrArg some (by kernel_rfl))
  f128 := Try.func107.trans (congrArg some (by kernel_rfl))
  f129 := Try.func108.trans (congrArg some (by kernel_rfl))
  f190 := Try.func95.trans (congrArg some (by kernel_rfl))
  f192 := Try.func84.trans (congrArg some (by kernel_rfl))
  f258 := Try.func96.trans (congrArg some (by kernel_rfl))
  f302 := Try.func98.trans (congrArg some (by kernel_rfl))
  f303 := Try.func99.trans (congrArg some (by kernel_rfl))
  f304 := Try.func100.trans (congrArg some (by kernel_rfl))
  f305 := Try.func101.trans (congrArg some (by kernel_rfl))
  f306 := Try.func102.trans (congrArg some (by kernel_rfl))
  f307 := Try.func103.trans (congrArg some (by kernel_rfl))
  f308 := Try.func104.trans (congrArg some (by kernel_rfl))
  f309 := Try.func105.trans (congrArg some (by kernel_rfl))
  f310 := Try.func106.trans (congrArg some (by kernel_rfl))
  f329 := Try.func110.trans (congrArg some (by kernel_rfl))
  f330 := Try.func111.trans (congrArg some (by kernel_rfl))
  f333 := Try.func109.trans (congrArg some (by kernel_rfl))
  f334 := Try.func112.trans (congrArg some (by kernel_rfl))
  f335 := Try.func113.trans (congrArg some (by kernel_rfl))
  f336 := Try.func114.trans (congrArg some (by kernel_rfl))
  f344 := Try.func115.trans (congrArg some (by kernel_rfl))
  t0 := Try.underlying0
  a0 := Try.isAgg0
  z0 := Try.sizeOf0
  v0 := Try.zeroValue0
  t3 := Try.underlying3
  a3 := Try.isAgg3
  z3 := Try.sizeOf3
  v3 := Try.zeroValue3
  t4 := Try.underlying4
  a4 := Try.isAgg4
  z4 := Try.sizeOf4
  v4 := Try.zeroValue4
  t5 := Try.underlying5
  a5 := Try.isAgg5
  z5 := Try.sizeOf5
  v5 := Try.zeroValue5
  t9 := Try.underlying9
  a9 := Try.isAgg9
  z9 := Try.sizeOf9
  v9 := Try.zeroValue9
  t31 := Try.underlying46
  a31 := Try.isAgg46
  z31 := Try.sizeOf46
  v31 := Try.zeroValue46
  t46 := Try.underlying130
  a46 := Try.isAgg130
  z46 := Try.sizeOf130
  v46 := Try.zeroValue130
  t51 := Try.underlying140
  a51 := Try.isAgg140
  z51 := Try.sizeOf140
  v51 := Try.zeroValue140
  t53 := Try.underlying95
  a53 := Try.isAgg95
  z53 := Try.sizeOf95
  v53 := Try.zeroValue95
  t131 := Try.underlying81
  a131 := Try.isAgg81
  z131 := Try.sizeOf81
  v131 := Try.zeroValue81
  t182 := Try.underlying132
  a182 := Try.isAgg132
  z182 := Try.sizeOf132
  v182 := Try.zeroValue132
  t183 := Try.underlying133
  a183 := Try.isAgg133
  z183 := Try.sizeOf133
  v183 := Try.zeroValue133
  t218 := Try.underlying142
  a218 := Try.isAgg142
  z218 := Try.sizeOf142
  v218 := Try.zeroValue142
  t222 := Try.underlying146
  a222 := Try.isAgg146
  z222 := Try.sizeOf146
  v222 := Try.zeroValue146
  t228 := Try.underlying148
  a228 := Try.isAgg148
  z228 := Try.sizeOf148
  v228 := Try.zeroValue148
  t229 := Try.underlying149
  a229 := Try.isAgg149
  z229 := Try.sizeOf149
  v229 := Try.zeroValue149 }
open Go.Sort Go.RowKit in
theorem sort_Strings (blk off cap : Nat) (ss : List (List UInt8)) (w : World) (hH : Holds encStr w blk off ss.toArray) (hblk : blk < w.heap.size) (hsz : ss.length < 4611686018427387904) :
    Calls Try.prog 84 #[.slice (some ⟨blk, off, none⟩) ss.length cap] w fun e w' =>
      e = .returned (.tuple #[]) ∧ ∃ n os, w' = grow (putRow encStr (Sort.ahead w n) blk off (ss.mergeSort fun x y => decide (x ≤ y)).toArray) os := Any.sort_Strings lays192 blk off cap ss w hH hblk hsz
theorem sort_Strings_none (p : Option Addr) (cap : Nat) (w : World) :
    Calls Try.prog 84 #[.slice p 0 cap] w fun e w' => e = .returned (.tuple #[]) ∧ w' = w := Any.sort_Strings_none lays192 p cap w
end Go.Proofs.Ythphonkiolmkiaa
/- Layer 14 walked: names, Names. -/
set_option linter.unusedVariables false
set_option linter.unusedSimpArgs false
namespace Go.Proofs.Ythphonkiolmkiaa
open Go.RowKit Go.Sort
set_option maxRecDepth 100000
set_option maxHeartbeats 8000000

/-- What append(v, y) makes of a row. -/
theorem Mem.growOne {w0 w w' : World} {cs : List Chunk} (h : Mem w0 cs w) (k : Nat) {T : TypeId} {size n m : Nat} {v v' : Value} {xs ys : List Value} (hk : cs[k]? = some (Go.Proofs.Ythphonkiolmkiaa.row T size v n xs)) (ha : App w' 0 T size v' m ys) (hg : w.grownBy w' v.ownBlock) (hat : v'.ownBlock = v.ownBlock ∨ ∃ b, v'.ownBlock = some b ∧ w.heap.size ≤ b) :
    Mem w0 (cs.set k (Go.Proofs.Ythphonkiolmkiaa.row T size v' m ys)) w' := by
  obtain ⟨S1, ⟨h1, _⟩, h3⟩ := h.set k hk
  refine h3 _ w' (fun b => v'.ownBlock = some b) ⟨fun _ => Iff.rfl, ha⟩ (fun b hb => ?_) (fun b hb hn => ?_) hg.os hg.tape hg.output
  · rcases hat with e | ⟨q, e, hq⟩
    · left; rw [h1, ← e]; exact hb
    · right; rw [e] at hb; cases hb; exact hq
  · refine hg.block b hb (fun e => hn ((h1 b).2 e.symm))
theorem strs_enc (xs : List ByteArray) : xs.map sE = (xs.map ByteArray.toList).map encStr := by
  rw [List.map_map]
  apply List.map_congr_left
  intro x _
  show Value.string x = Value.string ⟨x.toList.toArray⟩
  rw [ByteArray.toList_eq]
open Go.Sort in
theorem take_putAt (cur : Array Value) (ts : List (List UInt8)) (o : Nat) (h : o + ts.length ≤ cur.size) : ((putCells encStr o ts.toArray cur).toList.drop o).take ts.length = ts.map encStr := by
  apply List.ext_getElem?
  intro j
  by_cases hj : j < ts.length
  · rw [List.getElem?_take_of_lt hj, List.getElem?_drop, Array.getElem?_toList]
    simp [putCells, hj, show o + j < cur.size by omega]
  · rw [List.getElem?_take_eq_none (by omega), List.getElem?_eq_none (by simp; omega)]
/-- A row of texts is sorted by the library. -/
theorem sort_row {w : World} {base n c : Nat} {A : Option Addr} {xs ys : List ByteArray} (h : App w base 9 1 (.slice A n c) n (xs.map sE)) (hs : ((xs.map ByteArray.toList).mergeSort fun x y => decide (x ≤ y)) = ys.map ByteArray.toList) (hn : n < 4611686018427387904) :
    Calls Try.prog 84 #[.slice A n c] w (fun en w' => en = .returned (.tuple #[]) ∧ App w' base 9 1 (.slice A n c) n (ys.map sE) ∧ w.grownBy w' (Value.slice A n c).ownBlock) := by
  have hl : xs.length = n := by have := h.len; simpa using this
  have hl2 : ys.length = n := by
    have := congrArg List.length hs
    rw [List.length_mergeSort, List.length_map, List.length_map] at this
    omega
  rcases h.is with ⟨e, h0⟩ | ⟨g, o, cap, cur, e, hb, hg, hnc, hcm, hfit, htake⟩
  · cases e
    obtain rfl : ys = [] := List.eq_nil_of_length_eq_zero (by omega)
    refine (sort_Strings_none none 0 w).mono ?_
    rintro en w' ⟨rfl, rfl⟩
    exact ⟨rfl, App.nil _ _ _ _, ⟨rfl, rfl, rfl, Nat.le_refl _, fun _ _ _ => rfl⟩⟩
  · cases e
    rw [strs_enc, Nat.mul_one] at htake
    rw [Nat.mul_one] at hfit
    have hH : Go.Sort.Holds encStr w g o (xs.map ByteArray.toList).toArray := by
      intro j hj
      have hj' : j < xs.length := by simpa using hj
      refine ⟨?_, by simp [World.frozen?, hg]⟩
      have h1 : ((cur.toList.drop o).take n)[j]? = ((xs.map ByteArray.toList).map encStr)[j]? := by rw [htake]
      rw [List.getElem?_take_of_lt (by omega), List.getElem?_drop] at h1
      simp only [World.cell?, hg]
      simp only [Option.isSome_none, Bool.false_eq_true, if_false]
      rw [← Array.getElem?_toList, h1]
      simp [hj']
    have hc := sort_Strings g o c (xs.map ByteArray.toList) w hH (heap_lt hg) (by simp; omega)
    rw [List.length_map, hl, hs] at hc
    refine hc.mono ?_
    rintro en w' ⟨rfl, k, os, rfl⟩
    have hgl := heap_lt hg
    refine ⟨rfl, ⟨by simp [hl2], .inr ⟨g, o, c, putCells encStr o (ys.map ByteArray.toList).toArray cur, rfl, hb, ?_, hnc, hcm, ?_, ?_⟩⟩, ?_⟩
    · rw [Go.Sort.heap_grow_old _ _ (by simpa using hgl)]
      simp [Go.Sort.putRow, Go.Sort.mapBlock, Go.Sort.ahead, Array.getElem?_modify, hg, Go.Sort.onCells]
    · simp [Go.Sort.putCells]; omega
    · rw [Nat.mul_one]
      have h2 := take_putAt cur (ys.map ByteArray.toList) o (by rw [List.length_map, hl2]; omega)
      rw [List.length_map, hl2] at h2
      rw [strs_enc]
      exact h2
    · refine ⟨rfl, rfl, rfl, by simp, fun k hk hne => ?_⟩
      rw [Go.Sort.heap_grow_old _ _ (by simpa using hk)]
      have : g ≠ k := fun e => hne (by simp [Value.ownBlock, e])
      simp [Go.Sort.putRow, Go.Sort.mapBlock, Go.Sort.ahead, Array.getElem?_modify, this]
theorem Try.infoString : (Try.prog.info? 9).map (fun i => (i.zero, i.size, i.bytes)) = some (some (.string .empty), 1, 16) := by kernel_rfl
theorem dir_names {b : Nat} {L D : Dir} {w0 w : World} {cs : List Chunk} (h : Mem w0 (dirC b L :: cs) w) (hD : DirOk D) (hp : L.Perm D) (hl : D.length ≤ 64) :
    Calls Try.prog 57 #[.map (some b)] w (fun en w' => ∃ A c, en = .returned (.slice A D.length c) ∧ Mem w0 (row 9 1 (.slice A D.length c) D.length ((dNames D).map sE) :: dirC b L :: cs) w') := by
  have HD := Lib.hid (And.intro hD (And.intro hp hl))
  have HM := Lib.hid h
  clear h hD hp hl
  go_enter Try.func57, Try.ntmps57
  go_upto_region 2 with (fail)
  obtain ⟨o, hr, M2⟩ := HM.out.rngStart map_dir_u
  have HM2 := Lib.hid ((M2.nilRow 9 1))
  clear M2
  go_wp2_with fail
  generalize w.alloc o = v2 at HM2 ⊢
  generalize w.heap.size = r at HM2 ⊢
  clear hr HM
  go_loopw [3, 4] (fun v3 _ wr => ∃ (left O : Dir) (A : Option Addr) (c : Nat), v3 = .slice A O.length c ∧ (O ++ left).Perm L ∧ Hid (Mem w0 (row 9 1 (.slice A O.length c) O.length ((dNames O).map sE) :: rngC b r .string sE nE L left :: cs) wr)) (fun _ _ wr => rngLeft wr b r)
  case atStart => exact ⟨L, [], none, 0, rfl, List.Perm.refl _, HM2.out⟩
  case round =>
    obtain ⟨left, O, A, c, rfl, hpp, HS⟩ := hrel
    have hlen := HS.out.rngLeft 1 rfl
    rcases (HS.out.bring 1).rngNext (P := Try.prog) 0 with ⟨hnil, hr⟩ | ⟨j, ⟨s, n⟩, v3, hj, hr1, hr2, M3, hsz⟩
    · subst hnil
      have hpp2 : O.Perm D := by have := hpp; simp at this; exact this.trans HD.out.2.1
      have hOL := hpp2.length_eq
      have hns := names_sorted HD.out.1 hpp2
      have HC := Lib.hid (HS.out)
      have HSORT := Lib.hid (sort_row (xs := dNames O) (ys := dNames D) (HS.out.app 0 rfl) (by unfold dNames; rw [List.map_map, List.map_map]; exact hns) (by have := HD.out.2.2; omega))
      have HOL := Lib.hid hOL
      clear hpp hlen HM2 hpp2 hOL hns
      go_wp2_with fail
      refine HSORT.out.mono ?_
      rintro en w4 ⟨rfl, ha, hg⟩
      have M4 := ((HS.out.wrote 0 rfl ha hg).bring 1).rngEnd.bring 1
      rw [HOL.out] at M4 ⊢
      have HM4 := Lib.hid M4
      clear ha hg M4 HSORT HC HS
      go_wp2_with fail
      go_ret
      exact ⟨A, c, rfl, HM4.out⟩
    · have e2 : ((O ++ [(s, n)]) ++ left.eraseIdx j).Perm L := by
        refine List.Perm.trans ?_ hpp
        rw [List.append_assoc]
        exact List.Perm.append_left O (by simpa using (perm_erase hj).symm)
      have hOl : O.length ≤ 64 := by
        have h1 := hpp.length_eq
        have h2 := HD.out.2.1.length_eq
        have h3 := HD.out.2.2
        rw [List.length_append] at h1
        omega
      have HM3 := Lib.hid (M3.bring 1)
      have HX := Lib.hid (And.intro e2 (And.intro hj hlen))
      clear hj hlen M3 hpp hsz e2 HM2
      go_wp2_with (at_builtin; go_must (refine append_one rfl _ _ 46 9 (.string .empty) 1 16 rfl Try.underlying46 Try.infoString rfl (by decide) 0 (HM3.out.app 0 rfl) (by rfl) (by rfl) (by rfl) (by intro u hu; simp at hu; subst hu; rfl) (by omega) (by omega) (Nat.zero_le _) ?_); intro v5 w5 hown5 hgr5 hat5; obtain ⟨A5, c5, rfl, hcc5⟩ := hown5.slice)
      go_roundw
      case rel =>
        have M5 := HM3.out.growOne 0 rfl hown5 hgr5 hat5
        have e5 : O.length + 1 = (O ++ [(s, n)]).length := by simp
        have e6 : (dNames O).map sE ++ [.string s] = (dNames (O ++ [(s, n)])).map sE := by simp [dNames]
        rw [e6, e5] at M5
        exact ⟨left.eraseIdx j, O ++ [(s, n)], A5, c5, by rw [← e5], HX.out.1, M5⟩
      case measure =>
        obtain ⟨_, hj, hlen⟩ := HX.out
        have hjl := (List.getElem?_eq_some_iff.1 hj).1
        have M5 := HM3.out.growOne 0 rfl hown5 hgr5 hat5
        have e := M5.rngLeft (b := b) (r := r) (d := .string) (kE := sE) (vE := nE) (L := L) (left := left.eraseIdx j) 1 rfl
        rw [e, hlen, List.length_eraseIdx, if_pos hjl]; omega
theorem fs_Names {p : Nat} {S : Fs} {w0 w : World} {cs : List Chunk} (h : Mem w0 (fsC p S :: cs) w) :
    Calls Try.prog 30 #[pE p] w (fun en w' => ∃ A c, en = .returned (.slice A (fsNames S).length c) ∧ Mem w0 (row 9 1 (.slice A (fsNames S).length c) (fsNames S).length ((fsNames S).map sE) :: fsC p S :: cs) w') := by
  obtain ⟨R, hf, ho, M⟩ := h.fs
  have HG := Lib.hid (ready_at M)
  have HF := Lib.hid (And.intro hf ho)
  clear h M
  cases hS : S.dead
  case true =>
    have e1 : fsNames S = [] := by unfold fsNames; rw [if_pos hS]
    rw [e1]
    rw [hS] at HG
    clear e1
    go_enter Try.func30, Try.ntmps30
    go_wp2_with fail
    refine HG.out.mono ?_
    rintro en w1 ⟨rfl, m1⟩
    have HM := Lib.hid m1
    clear m1 HG
    go_wp2_with fail
    go_ret
    exact ⟨none, 0, rfl, (HM.out.unfs HF.out.1 HF.out.2).nilRow _ _⟩
  case false =>
    have e1 : fsNames S = dNames S.seen := by unfold fsNames; rw [if_neg (by simp [hS])]
    rw [e1]
    have e2 : (dNames S.seen).length = S.seen.length := by simp [dNames]
    rw [e2]
    rw [hS] at HG
    clear e1 e2
    go_enter Try.func30, Try.ntmps30
    go_wp2_with fail
    refine HG.out.mono ?_
    rintro en w1 ⟨rfl, m1⟩
    have HM := Lib.hid m1
    have c6 : w1.cell? ⟨p, 6, none⟩ = some (.map (some R.nm)) := (m1.ob 0 rfl).cell 6 rfl
    have HN := Lib.hid (dir_names (D := S.seen) (m1.bring 3) ho.seen.ok hf.seen ho.seen.len)
    clear m1 HG
    go_wp2_with fail
    refine HN.out.mono ?_
    rintro en w2 ⟨A, c, rfl, M2⟩
    have HM2 := Lib.hid ((M2.bring 1).away 4)
    clear M2 HN HM c6
    go_wp2_with fail
    go_ret
    exact ⟨A, c, rfl, (Mem.unfs (cs := row 9 1 (.slice A S.seen.length c) S.seen.length ((dNames S.seen).map sE) :: cs) (HM2.out.away 6) HF.out.1 HF.out.2).bring 1⟩
end Go.Proofs.Ythphonkiolmkiaa
/- Layer 14 walked: the numbers of a failure, taken one by one. -/
set_option linter.unusedVariables false
set_option linter.unusedSimpArgs false
namespace Go.Proofs.Ythphonkiolmkiaa
open Go.RowKit
set_option maxRecDepth 100000
set_option maxHeartbeats 8000000

theorem wrap_small {a : Int} (h0 : -1000000000000 ≤ a) (h : a ≤ 1000000000000) : IntKind.i64.wrap a = a ∧ wrap64 a = a := by
  constructor
  · rw [IntKind.wrap_i64]; omega
  · unfold wrap64; omega
abbrev iE (n : Int) : Value := .int .i64 n
/-- A slice of numbers that lie in memory that stays. -/
def Cuts (w0 : World) (K : List Chunk) (l : List Int) (V : Value) : Prop := ∃ A c, V = .slice A l.length c ∧ l.length ≤ c ∧ ∀ v, Mem w0 K v → Rd v A (l.map iE)
theorem cuts_tail {w0 : World} {K : List Chunk} {A X : Option Addr} {a : Int} {l : List Int} {c : Nat} (hc : l.length + 1 ≤ c) (hr : ∀ v, Mem w0 K v → Rd v A ((a :: l).map iE)) (e : cutAddr A 1 1 c = X) : Cuts w0 K l (.slice X l.length (c - 1)) :=
  ⟨X, c - 1, rfl, by omega, fun v hv => by
    have h3 := ((hr v hv).cutTo 1 1 c (by intro e; rw [List.length_map, List.length_cons]; omega))
    rw [e] at h3
    simpa using h3⟩
theorem fs_take {g many : Nat} {K cs : List Chunk} {l : List Int} {V : Value} {w0 w : World} (h : Mem w0 (blk g 24 #[V] :: cs) w) (hV : Cuts w0 K l V) (hK : ∀ v, Mem w0 cs v → Mem w0 K v) (h1 : 1 ≤ many) (h2 : many ≤ 1000000000000) (hi : ∀ a ∈ l, -9223372036854775808 ≤ a ∧ a ≤ 9223372036854775807) :
    Calls Try.prog 55 #[nE many, .pointer (some ⟨g, 0, none⟩)] w (fun en w' => en = .returned (nE (takeN many l).1) ∧ ∃ V', Cuts w0 K (takeN many l).2 V' ∧ Mem w0 (blk g 24 #[V'] :: cs) w') := by
  obtain ⟨A, c, rfl, hc, hr⟩ := hV
  have HR := Lib.hid hr
  have HM := Lib.hid h
  have HK := Lib.hid hK
  have c0 : w.cell? ⟨g, 0, none⟩ = some (.slice A l.length c) := (h.ob 0 rfl).cell 0 rfl
  have f0 : w.frozen? ⟨g, 0, none⟩ = false := (h.ob 0 rfl).free 0
  have hrd := hr w (hK w h.drop)
  clear h hr hK
  cases l with
  | nil =>
    have hl : (([] : List Int).length : Int) = 0 := rfl
    have HC := Lib.hid hc
    clear hc hrd hi
    simp only [List.length_nil] at *
    go_enter Try.func55, Try.ntmps55
    go_wp2_with fail
    go_ret
    exact ⟨rfl, _, ⟨A, c, rfl, HC.out, HR.out⟩, HM.out⟩
  | cons a l =>
    obtain ⟨q, rfl⟩ : ∃ q, many = q + 1 := ⟨many - 1, by omega⟩
    have HH := Lib.hid (show (Int.tmod (IntKind.u64.wrap a) ((q : Int) + 1)) = (((a % 18446744073709551616).toNat % (q + 1) : Nat) : Int) by
      rw [IntKind.wrap_u64, Int.tmod_eq_emod_of_nonneg (by omega)]
      have e : ((a % 18446744073709551616).toNat : Int) = a % 18446744073709551616 := by omega
      rw [Int.natCast_emod, e]; simp)
    have HW := Lib.hid (show wrap64 (((a % 18446744073709551616).toNat % (q + 1) : Nat) : Int) = (((a % 18446744073709551616).toNat % (q + 1) : Nat) : Int) by
      have hlt := Nat.mod_lt (a % 18446744073709551616).toNat (show 0 < q + 1 by omega)
      generalize (a % 18446744073709551616).toNat % (q + 1) = z at hlt ⊢
      unfold wrap64; omega)
    have hia := hi a (by simp)
    obtain ⟨b, o, rfl, hk⟩ := Rd.get hrd (i := 0) (x := a) rfl
    rw [Nat.add_zero] at hk
    have s1 := cut_l (P := Try.prog) 24 3 1 Try.underlying24 (by kernel_rfl) (some ⟨b, o, none⟩) (l.length + 1) c 1 (by omega) w
    have HC := Lib.hid hc
    clear hc hrd hi
    simp only [List.length_cons] at *
    go_enter Try.func55, Try.ntmps55
    go_wp2_with fail
    case inl =>
      subst h
      go_ret
      rw [HH.out, HW.out]
      exact ⟨rfl, _, cuts_tail HC.out HR.out rfl, HM.out.put 0 rfl 0 (.slice (some ⟨b, o, none⟩) l.length 0)⟩
    case inr =>
      go_ret
      rw [HH.out, HW.out]
      exact ⟨rfl, _, cuts_tail HC.out HR.out (cutAddr_some b o 1 1 c h), HM.out.put 0 rfl 0 (.slice (some ⟨b, o + 1, none⟩) l.length (c - 1))⟩
end Go.Proofs.Ythphonkiolmkiaa
