/- Texts of the claim SimfsTwice, part 6: SimKr, SimKs, SimKt, SimKu, SimKv, SimLa, SimPb, SimPc, SimPd, SimRoom. -/
import Derived.Test.YthphonkiolmkiaaGSimfsTwice5
import Derived.Test.YthphonkiolmkiaaGSimfsTwice4
/- Layer 14, the reference walked: Create. -/
set_option linter.unusedVariables false
set_option linter.unusedSimpArgs false
namespace Go.Proofs.Ythphonkiolmkiaa
open Go.RowKit
set_option maxRecDepth 100000
set_option maxHeartbeats 8000000

theorem Try.infoFile : (Try.prog.info? 113).map (fun i => (i.zero, i.size, i.bytes)) = some (some (.agg #[.slice none 0 0, .slice none 0 0]), 2, 48) := by kernel_rfl
/-- A file more. -/
def rfNew : RfF := ⟨⟨[], [], []⟩, none, 0, .slice none 0 0, []⟩
theorem Mem.togMore {w0 w : World} {cs l : List Chunk} {A : Chunk} (h : Mem w0 (A :: tog l :: cs) w) : Mem w0 (tog (l ++ [A]) :: cs) w := by
  have h1 := (h.perm (List.Perm.swap _ _ _)).open_
  refine Mem.close (l := l ++ [A]) (h1.perm ?_)
  rw [List.append_assoc]
  exact List.Perm.refl _
section
variable {w0 w : World} {cs : List Chunk} {p : Nat} {S : Fs} {G : Facts}
theorem ref_Create (s : ByteArray) (h : Mem w0 (rfC p S G :: pool G :: cs) w) (ha : S.acts < 1000000000) (hs : s.size ≤ 281474976710656) : Calls Try.prog 62 #[pE p, sE s] w (RfRet w0 p (fsCreate S s).1 G cs (nE (fsCreate S s).2)) := by
  obtain ⟨R, hf, ho, M⟩ := h.rf
  have HM := Lib.hid M
  have HF := Lib.hid (And.intro hf (And.intro ho ha))
  have HH := Lib.hid h
  have HS := Lib.hid hs
  have c7 : w.cell? ⟨p, 7, none⟩ = some (.bool S.dead) := (M.ob 0 rfl).cell 7 rfl
  have c4 : w.cell? ⟨p, 4, none⟩ = some (.slice R.na S.seen.length R.nc) := (M.ob 0 rfl).cell 4 rfl
  cases hd : S.dead
  case true =>
    have e : fsCreate S s = (S, 13) := by unfold fsCreate; rw [if_pos hd]
    rw [e]
    rw [hd] at c7
    clear h hf ho ha M e hd hs
    go_enter Try.func62, Try.ntmps62
    go_wp2_with fail
    go_ret
    exact ⟨rfl, G, fun _ _ h => h, HH.out⟩
  case false =>
    rw [hd] at c7
    cases hnm : isNm s
    case false =>
      have e : fsCreate S s = (S, 2) := by unfold fsCreate; rw [if_neg (by simp [hd]), if_pos hnm]
      rw [e]
      have HNM := Lib.hid hnm
      clear h hf ho ha M e hd hnm hs
      go_enter Try.func62, Try.ntmps62
      go_wp2_with fail
      refine (ref_name s w HS.out).mono ?_
      rintro en w2 ⟨rfl, rfl⟩
      rw [HNM.out]
      go_wp2_with fail
      go_ret
      exact ⟨rfl, G, fun _ _ h => h, HH.out⟩
    case true =>
      have HNM := Lib.hid hnm
      have hfind := ref_find R.na S.seen R.nc s w (M.rd 4 rfl hf.seen) (by have := ho.seen.len; omega)
      have HFIND := Lib.hid hfind
      have HND := Lib.hid ho.seen.ok.nd
      cases hm : mGet S.seen s with
      | some n =>
        have e : fsCreate S s = (S, 8) := by unfold fsCreate; rw [if_neg (by simp [hd]), if_neg (by simp [hnm]), if_pos (by simp [hm])]
        rw [e]
        have HMG := Lib.hid hm
        clear h hf ho ha M e hd hnm hs hfind hm
        go_enter Try.func62, Try.ntmps62
        go_wp2_with fail
        refine (ref_name s w HS.out).mono ?_
        rintro en w2 ⟨rfl, rfl⟩
        rw [HNM.out]
        go_wp2_with fail
        refine HFIND.out.mono ?_
        rintro en w3 ⟨r, rfl, rfl, hh⟩
        rcases hh with ⟨rfl, hno⟩ | ⟨i, n', rfl, hi⟩
        · have := HMG.out
          rw [hno] at this
          cases this
        · have i1 : (0 : Int) ≤ (i : Int) := by omega
          clear hi HFIND
          go_wp2_with fail
          go_ret
          exact ⟨rfl, G, fun _ _ h => h, HH.out⟩
      | none =>
        have HMG := Lib.hid hm
        by_cases hl : 64 ≤ S.seen.length
        · have e : fsCreate S s = (S, 3) := by unfold fsCreate; rw [if_neg (by simp [hd]), if_neg (by simp [hnm]), if_neg (by simp [hm]), if_pos hl]
          rw [e]
          have i1 : (64 : Int) ≤ (S.seen.length : Int) := by omega
          clear h hf ho ha M e hd hnm hs hfind hm hl
          go_enter Try.func62, Try.ntmps62
          go_wp2_with fail
          refine (ref_name s w HS.out).mono ?_
          rintro en w2 ⟨rfl, rfl⟩
          rw [HNM.out]
          go_wp2_with fail
          refine HFIND.out.mono ?_
          rintro en w3 ⟨r, rfl, rfl, hh⟩
          rcases hh with ⟨rfl, hno⟩ | ⟨i, n', rfl, hi⟩
          · clear hno HFIND
            go_wp2_with fail
            go_ret
            exact ⟨rfl, G, fun _ _ h => h, HH.out⟩
          · have := mGet_at HND.out hi
            rw [HMG.out] at this
            cases this
        · clear c4 c7 HFIND hfind HM HF hf ho M
          obtain ⟨R, hf, ho, M⟩ := h.noteNil.rf
          obtain ⟨G', hG'⟩ : ∃ G' : Facts, G' = (fun A l => G A l ∨ (A = none ∧ l = [])) := ⟨_, rfl⟩
          rw [← hG'] at hf M
          have HG := Lib.hid (show (∀ A l, G A l → G' A l) ∧ G' none (([] : List UInt8).map bv) by rw [hG']; exact ⟨fun _ _ h => .inl h, .inr ⟨rfl, rfl⟩⟩)
          have c7 : w.cell? ⟨p, 7, none⟩ = some (.bool S.dead) := (M.ob 0 rfl).cell 7 rfl
          have c4 : w.cell? ⟨p, 4, none⟩ = some (.slice R.na S.seen.length R.nc) := (M.ob 0 rfl).cell 4 rfl
          rw [hd] at c7
          have hfind := ref_find R.na S.seen R.nc s w (M.rd 4 rfl hf.seen) (by have := ho.seen.len; omega)
          have HFIND := Lib.hid hfind
          have e : fsCreate S s = endE (fails (turn { S with fl := S.fl ++ [⟨[], [], []⟩] } ⟨0, .empty, s, S.fl.length + 1⟩)) := by unfold fsCreate; rw [if_neg (by simp [hd]), if_neg (by simp [hnm]), if_neg (by simp [hm]), if_neg hl]
          have i1 : ¬ (64 : Int) ≤ (S.seen.length : Int) := by omega
          have HOK := Lib.hid (create_ok (s := s) ho (by omega))
          obtain ⟨S1, hS1⟩ : ∃ S1 : Fs, S1 = { S with fl := S.fl ++ [⟨[], [], []⟩] } := ⟨_, rfl⟩
          rw [e]
          rw [← hS1] at HOK ⊢
          obtain ⟨er, her⟩ : ∃ er, er = (endE (fails (turn S1 ⟨0, .empty, s, S.fl.length + 1⟩))).2 := ⟨_, rfl⟩
          obtain ⟨S2, hS2⟩ : ∃ S2, S2 = (endE (fails (turn S1 ⟨0, .empty, s, S.fl.length + 1⟩))).1 := ⟨_, rfl⟩
          rw [← her, ← hS2]
          have HD := Lib.hid hd
          have HHL := Lib.hid (And.intro hS1 (And.intro her (And.intro hS2 hl)))
          have hfl : S.fl.length ≤ 1000000064 := by have := ho.flen; omega
          have HM := Lib.hid M
          have HF := Lib.hid (And.intro hf (And.intro ho ha))
          clear h hf ho ha M e hd hnm hs hfind hm hl hS1 her hS2 hG'
          go_enter Try.func62, Try.ntmps62
          go_wp2_with fail
          refine (ref_name s w HS.out).mono ?_
          rintro en w2 ⟨rfl, rfl⟩
          rw [HNM.out]
          go_wp2_with fail
          refine HFIND.out.mono ?_
          rintro en w3 ⟨r, rfl, rfl, hh⟩
          rcases hh with ⟨rfl, hno⟩ | ⟨i, n', rfl, hi⟩
          rotate_left
          · have := mGet_at HND.out hi
            rw [HMG.out] at this
            cases this
          clear hno HFIND
          obtain ⟨Af, cf, hfv, hcf⟩ := (HM.out.app 1 rfl).slice
          have c1 : w3.cell? ⟨p, 1, none⟩ = some (.slice R.fa S.fl.length R.fc) := (HM.out.ob 0 rfl).cell 1 rfl
          go_upto_region 10 with (at_builtin; go_must (refine append_one rfl _ _ 101 113 (.agg #[.slice none 0 0, .slice none 0 0]) 2 48 rfl Try.underlying101 Try.infoFile rfl (by decide) 0 (ys := [.slice none 0 0, .slice none 0 0]) (HM.out.app 1 rfl) (by rfl) (by rfl) (by rfl) (by intro u hu; simp at hu; subst hu; rfl) (by omega) (by omega) (Nat.zero_le _) ?_); intro v7 w7 hown7 hgr7 hat7; obtain ⟨A7, c7', rfl, hcc7⟩ := hown7.slice; have M7 := HM.out.growOne 1 rfl hown7 hgr7 hat7; have n1 : w7.cell? ⟨p, 1, none⟩ = some (.slice R.fa S.fl.length R.fc) := (M7.ob 0 rfl).cell 1 rfl; have nf1 : w7.frozen? ⟨p, 1, none⟩ = false := (M7.ob 0 rfl).free 1)
          obtain ⟨R1, hR1⟩ : ∃ R1 : RfR, R1 = {R with fa := A7, fc := c7', fs := R.fs ++ [rfNew]} := ⟨_, rfl⟩
          have M8 := (((((M7.put 0 rfl 1 (.slice A7 (S.fl.length + 1) c7')).bring 3).nilRow 118 3).togMore).away 3)
          have M9 : Mem w0 (rfL p R1 S1 ++ pool G' :: cs) (w7.setCell ⟨p, 1, none⟩ (.slice A7 (S.fl.length + 1) c7')) := by
            rw [hR1, HHL.out.1]
            show Mem w0 (blk p 105 (rfCells {R with fa := A7, fc := c7'} S.room (S.fl ++ [(⟨[], [], []⟩ : Fl)]).length S.sure.length S.seen.length S.acts S.fuse S.dead) :: row 113 2 (.slice A7 (S.fl ++ [(⟨[], [], []⟩ : Fl)]).length c7') (S.fl ++ [(⟨[], [], []⟩ : Fl)]).length ((R.fs ++ [rfNew]).flatMap rfV) :: row 102 1 R.rv S.row.length (R.ds.flatMap dsV) :: tog ((R.fs ++ [rfNew]).map rfRow) :: pool G' :: cs) _
            rw [List.length_append, List.flatMap_append, List.map_append]
            exact M8
          have hfit1 : RfFit R1 S1 G' := by
            obtain ⟨hf, ho, ha⟩ := HF.out
            rw [hR1, HHL.out.1]
            refine ⟨hf.sure, hf.sc, hf.seen, hf.nc, ?_, ?_, hf.dirs, hf.ds⟩
            · show (R.fs ++ [rfNew]).map (·.x) = S.fl ++ [⟨[], [], []⟩]
              rw [List.map_append, hf.files]; rfl
            · intro q hq
              rcases List.mem_append.1 hq with hq | hq
              · exact hf.fs q hq
              · simp at hq; subst hq
                exact ⟨HG.out.2, Nat.zero_le _, rfl, fun e he => by cases he⟩
          have hseen1 : S1.seen = S.seen := by rw [HHL.out.1]
          have hacts1 : S1.acts < 1000000000 := by rw [HHL.out.1]; exact HF.out.2.2
          have hd1 : S1.dead = false := by rw [HHL.out.1]; exact HD.out
          have hmv1 : S1.row.foldl dirDo S1.sure = S1.seen := by rw [HHL.out.1]; exact movesOk_all HF.out.2.1.moves
          have hfu1 : S1.fuse < 9223372036854775808 := by rw [HHL.out.1]; exact HF.out.2.1.fuse
          have hrl1 : S1.row.length ≤ S1.acts := by rw [HHL.out.1]; exact HF.out.2.1.rowl
          have hfl1 : S1.fl.length = S.fl.length + 1 := by rw [HHL.out.1]; show (S.fl ++ [_]).length = _; rw [List.length_append]; rfl
          have hna1 : R1.na = R.na ∧ R1.nc = R.nc ∧ R1.fa = A7 ∧ R1.fc = c7' := by rw [hR1]; exact ⟨rfl, rfl, rfl, rfl⟩
          have hdir1 : dirDo S1.seen ⟨0, .empty, s, S.fl.length + 1⟩ = dPut S.seen s (S.fl.length + 1) := by rw [hseen1]; unfold dirDo; rfl
          generalize w7.setCell ⟨p, 1, none⟩ (.slice A7 (S.fl.length + 1) c7') = v1 at M9 ⊢
          have k4 : v1.cell? ⟨p, 4, none⟩ = some (.slice R.na S.seen.length R.nc) := by
            rw [← hna1.1, ← hna1.2.1, ← hseen1]; exact (M9.ob 0 rfl).cell 4 rfl
          have k1 : v1.cell? ⟨p, 1, none⟩ = some (.slice A7 ((S.fl.length + 1 : Nat)) c7') := by
            rw [← hna1.2.2.1, ← hna1.2.2.2, ← hfl1]; exact (M9.ob 0 rfl).cell 1 rfl
          have HM9 := Lib.hid M9.drew
          have HWITH := Lib.hid (ref_with R.na S.seen R.nc s (S.fl.length + 1) HM9.out (fun v m => m.rd 4 rfl (by have := hfit1.seen; rw [hna1.1, hseen1] at this; exact this)) (by have := HF.out.2.1.seen.len; omega) HF.out.1.nc HMG.out)
          have HT := Lib.hid (fun (A : Option Addr) (c : Nat) (v : World) (hcap : (dPut S.seen s (S.fl.length + 1)).length ≤ c) (m : Mem w0 (row 115 2 (.slice A (dPut S.seen s (S.fl.length + 1)).length c) (dPut S.seen s (S.fl.length + 1)).length ((dPut S.seen s (S.fl.length + 1)).flatMap entV) :: (rfL p R1 S1 ++ pool G' :: cs)) v) =>
            (ref_turn (p := p) (R := R1) (S := S1) (A := A) (c := c) ⟨0, .empty, s, S.fl.length + 1⟩ (cs := cs) (m.sinkAt 0 4 rfl rfl) (hfit1.mono (fun _ _ h => .inl h)) hmv1 hd1 hacts1 hfu1 hrl1 (by rw [hdir1]; exact .inr ⟨rfl, rfl⟩) (by rw [hdir1]; exact hcap)))
          rw [hdir1] at HT
          have HW := Lib.hid (wrap_small (a := ((S.fl.length + 1 : Nat) : Int) - 1) (by omega) (by omega))
          have her := HHL.out.2.1
          rw [← her] at HT
          clear her M7 M8 M9 hown7 hgr7 hat7 n1 nf1 hfit1 hseen1 hacts1 hd1 hmv1 hfu1 hrl1 hfl1 hna1 hdir1 hR1 HM hcf c1
          generalize hn1 : S.fl.length + 1 = n1 at HWITH HT HW k1 HHL HOK
          have e1 : (nE (n1 - 1) : Value) = .int .i64 ((n1 : Int) - 1) := by show Value.int .i64 ((n1 - 1 : Nat) : Int) = _; congr 1; omega
          rw [e1] at HWITH
          have HN1 := Lib.hid hn1
          clear e1 hn1
          obtain ⟨ww, wx⟩ := HW.out
          go_region_law (first
            | (go_simp; go_at_call 88; refine HWITH.out.mono ?_; rintro en w5 ⟨A5, c5, rfl, M5⟩; have hcap5 : (dPut S.seen s n1).length ≤ c5 := (by obtain ⟨_, _, e, h⟩ := (M5.app 0 rfl).slice; cases e; exact h))
            | (go_simp; go_at_call 87; refine (HT.out A5 c5 _ hcap5 M5).mono ?_; rintro en w6 ⟨R6, rfl, hf6, M6⟩))
          all_goals
            go_wp2_with fail
            go_ret
            have M7 := M6.unrf hf6 HOK.out
            rw [HHL.out.2.2.1]
            exact ⟨rfl, _, fun A l h => Or.inl (HG.out.1 A l h), M7⟩
end
end Go.Proofs.Ythphonkiolmkiaa
/- Layer 14, the reference walked: Sync. -/
set_option linter.unusedVariables false
set_option linter.unusedSimpArgs false
namespace Go.Proofs.Ythphonkiolmkiaa
open Go.RowKit
set_option maxRecDepth 100000
set_option maxHeartbeats 8000000

section
variable {w0 w : World} {cs : List Chunk} {p n : Nat} {R : RfR} {S : Fs} {G : Facts} {x : Fl}
theorem ref_bytesAt2 {b o k : Nat} (h : Mem w0 (rfL p R S ++ pool G :: cs) w) (hf : RfFit R S G) (ho : FsOk S) (ha : x.row.length ≤ 1000000000) (hx : S.fl[n]? = some x) (hfa : R.fa = some ⟨b, o, none⟩) (hk : k ≤ x.row.length) :
    Calls Try.prog 80 #[.pointer (some ⟨b, o + n * 2, none⟩), nE k] w (fun en w' => ∃ A' c', en = .returned (.slice A' ((x.row.take k).foldl chDo x.sure).length c') ∧ Mem w0 (row 5 1 (.slice A' ((x.row.take k).foldl chDo x.sure).length c') ((x.row.take k).foldl chDo x.sure).length (((x.row.take k).foldl chDo x.sure).map bv) :: (rfL p R S ++ pool G :: cs)) w') := by
  obtain ⟨q, hq, rfl⟩ := hf.at hx
  have hxo := ho.files _ (List.mem_of_getElem? hx)
  have hqo := hf.fs _ (List.mem_of_getElem? hq)
  have hlen : q.chs.length = q.x.row.length := by rw [← hqo.row, List.length_map]
  have hbig := ha
  have key := ref_bytes q.x.sure q.chs k (a := b) (o := o + n * 2) (A := q.a) (ca := q.c) (V := q.v) (now := q.x.now) h
    (fun v m => by
      obtain ⟨b', o', e, h1, h2⟩ := rf_cells m hq
      rw [hfa] at e
      cases e
      exact ⟨h1, h2⟩)
    (fun v m => m.rd 4 rfl hqo.sure) hqo.c hxo.sure
    (fun v m => by
      obtain ⟨ds, m1⟩ := m.inTog 3 rfl (j := n) (A := rfRow q) (by rw [List.getElem?_map, hq]; rfl)
      have h1 := m1.app 0 rfl
      rw [← hlen] at h1
      exact h1)
    (fun e he => ⟨fun v m => m.rd 4 rfl (hqo.ch e he).1, (hqo.ch e he).2⟩)
    (by rw [hqo.row]; exact hxo.row) (by omega) (by omega)
  rw [hqo.row] at key
  exact key
theorem ref_now2 {b o : Nat} (h : Mem w0 (rfL p R S ++ pool G :: cs) w) (hf : RfFit R S G) (ho : FsOk S) (ha : x.row.length ≤ 1000000000) (hx : S.fl[n]? = some x) (hfa : R.fa = some ⟨b, o, none⟩) :
    Calls Try.prog 91 #[.pointer (some ⟨b, o + n * 2, none⟩)] w (fun en w' => ∃ A' c', en = .returned (.slice A' x.now.length c') ∧ Mem w0 (row 5 1 (.slice A' x.now.length c') x.now.length (x.now.map bv) :: (rfL p R S ++ pool G :: cs)) w') := by
  have HB := ref_bytesAt2 h hf ho ha hx hfa (Nat.le_refl _)
  rw [List.take_length, rowOk_all (ho.files _ (List.mem_of_getElem? hx)).row] at HB
  obtain ⟨q, hq, rfl⟩ := hf.at hx
  obtain ⟨b', o', e, h1, h2⟩ := rf_cells h hq
  rw [hfa] at e
  cases e
  obtain ⟨ds, m1⟩ := h.inTog 3 rfl (j := n) (A := rfRow q) (by rw [List.getElem?_map, hq]; rfl)
  obtain ⟨Av, cv, hv, _⟩ := (m1.app 0 rfl).slice
  rw [hv] at h2
  have HBH := Lib.hid HB
  clear HB h1 m1 h hf ho hx hfa hq
  go_enter Try.func91, Try.ntmps91
  go_wp2_with fail
  refine HBH.out.mono ?_
  rintro en w1 ⟨A1, c1, rfl, M1⟩
  have HM1 := Lib.hid M1
  clear M1 HBH
  go_wp2_with fail
  go_ret
  exact ⟨A1, c1, rfl, HM1.out⟩
end
section
variable {w0 w : World} {cs : List Chunk} {p : Nat} {S : Fs} {G : Facts}
theorem rfV_set2 : ∀ (l : List RfF) (n : Nat) (q q' : RfF) (u u' : Value), l[n]? = some q → rfV q' = [u, u'] → ((l.flatMap rfV).set (n * 2) u).set (n * 2 + 1) u' = (l.set n q').flatMap rfV
  | [], n, q, q', u, u', h, _ => by simp at h
  | y :: l, 0, q, q', u, u', h, h1 => by
    simp at h; subst h
    simp [h1]
    simp [rfV]
  | y :: l, n + 1, q, q', u, u', h, h1 => by
    have ih := rfV_set2 l n q q' u u' (by simpa using h) h1
    rw [List.flatMap_cons, List.set_cons_succ, List.flatMap_cons, ← ih]
    have e : (rfV y).length = 2 := rfl
    rw [List.set_append_right _ _ (by rw [e]; omega), List.set_append_right _ _ (by rw [e]; omega), e, show (n + 1) * 2 - 2 = n * 2 by omega, show (n + 1) * 2 + 1 - 2 = n * 2 + 1 by omega]
theorem ref_Sync (s : ByteArray) (h : Mem w0 (rfC p S G :: pool G :: cs) w) (ha : S.acts < 1000000000) : Calls Try.prog 68 #[pE p, sE s] w (RfRet w0 p (fsSync S s).1 G cs (nE (fsSync S s).2)) := by
  obtain ⟨R, hf, ho, M⟩ := h.rf
  have HGET := Lib.hid (ref_get s M hf ho)
  have HM := Lib.hid M
  have HF := Lib.hid (And.intro hf (And.intro ho ha))
  have HH := Lib.hid h
  by_cases he : getE S s = 0
  case neg =>
    have e : fsSync S s = (S, getE S s) := by unfold fsSync; rw [if_pos he]
    rw [e]
    have i1 : ((getE S s : Int) != 0) = true := by simp; exact he
    rw [if_neg he] at HGET
    clear h hf ho ha M he e
    generalize getE S s = q at HGET i1 ⊢
    go_enter Try.func68, Try.ntmps68
    go_wp2_with fail
    refine HGET.out.mono ?_
    rintro en w1 ⟨rfl, rfl⟩
    clear HGET
    go_wp2_with fail
    go_ret
    exact ⟨rfl, G, fun _ _ h => h, HH.out⟩
  case pos =>
    obtain ⟨hd, n, hm, hgn⟩ := getE_dead he
    rw [if_pos he, he, hgn] at HGET
    obtain ⟨hn1, x, hx, hxo, hxa⟩ := ho.file hm
    have HB := ref_blown M hd ha ho.fuse
    have e0 : (if 0 < S.fuse then decide (S.fuse = 1) else S.dead) = (fails S).dead := rfl
    rw [e0] at HB
    have HBH := Lib.hid HB
    cases hxd : (fails S).dead
    case true =>
      have e : fsSync S s = (fails S, 13) := by unfold fsSync; rw [if_neg (by simp [he]), if_pos hxd]
      rw [e]
      rw [hxd, if_pos rfl] at HBH
      have HX := Lib.hid hxd
      clear h hf ho ha M e hd HB e0 hxd he hm hgn hn1 hx hxo hxa
      generalize n - 1 = m at HGET
      go_enter Try.func68, Try.ntmps68
      go_wp2_with fail
      refine HGET.out.mono ?_
      rintro en w1 ⟨rfl, rfl⟩
      clear HGET
      go_wp2_with fail
      refine HBH.out.mono ?_
      rintro en w1 ⟨rfl, M1⟩
      have HM1 := Lib.hid M1
      clear M1 HBH
      go_wp2_with fail
      go_ret
      refine ⟨rfl, G, fun _ _ h => h, ?_⟩
      have M2 := HM1.out
      rw [← HX.out] at M2
      obtain ⟨hf, ho, ha⟩ := HF.out
      exact Mem.unrf (R := R) (S := fails S) M2 ⟨hf.sure, hf.sc, hf.seen, hf.nc, hf.files, hf.fs, hf.dirs, hf.ds⟩ (fails_ok ho)
    case false =>
      have e : fsSync S s = ({ fails S with fl := S.fl.modify (n - 1) (fun x => { x with sure := x.now, row := [] }) }, 0) := by unfold fsSync; rw [if_neg (by simp [he]), if_neg (by simp [hxd]), hgn]
      rw [e]
      rw [hxd, if_neg (by simp)] at HBH
      have HX := Lib.hid (And.intro hxd hx)
      obtain ⟨q, hq, hqx⟩ := hf.at hx
      obtain ⟨b, o, hfa, _⟩ := rf_cells M hq
      have hnl : n - 1 < S.fl.length := (List.getElem?_eq_some_iff.1 hx).1
      have HQ := Lib.hid (And.intro hq (And.intro hqx hfa))
      have HFS := Lib.hid (show RfFit R (fails S) G from ⟨hf.sure, hf.sc, hf.seen, hf.nc, hf.files, hf.fs, hf.dirs, hf.ds⟩)
      have HOS := Lib.hid (fails_ok ho)
      generalize hm0 : n - 1 = m at HGET hnl hx HX HQ hq ⊢
      have i2 : (m : Int) < (S.fl.length : Int) := by omega
      have HNL := Lib.hid hnl
      have hxr : x.row.length ≤ 1000000000 := by have := ho.frow x (List.mem_of_getElem? hx); omega
      have HNOW := Lib.hid (fun (v : World) (m' : Mem w0 (rfL p R (fails S) ++ pool G :: cs) v) => ref_now2 m' HFS.out HOS.out hxr hx hfa)
      clear h hf ho ha M e hd HB e0 hxd he hm hgn hn1 hx hxo hxa hq hqx hm0 hnl hxr
      go_enter Try.func68, Try.ntmps68
      go_wp2_with fail
      refine HGET.out.mono ?_
      rintro en w1 ⟨rfl, rfl⟩
      clear HGET
      go_wp2_with fail
      refine HBH.out.mono ?_
      rintro en w1 ⟨rfl, M1⟩
      rw [← HX.out.1] at M1
      have M1 : Mem w0 (rfL p R (fails S) ++ pool G :: cs) w1 := M1
      have HM1 := Lib.hid M1
      have c1 : w1.cell? ⟨p, 1, none⟩ = some (.slice (some ⟨b, o, none⟩) S.fl.length R.fc) := by rw [← hfa]; exact (M1.ob 0 rfl).cell 1 rfl
      clear M1 HBH
      go_upto_region 6 with (fail)
      have HM2 := Lib.hid HM1.out.drew
      clear HM1
      have HN2 := Lib.hid (HNOW.out w1.drew HM2.out)
      have FR := fun (cs' : List Chunk) (i : Nat) (u : World) (m' : Mem w0 cs' u) (hi : cs'[i]? = some (row 113 2 (.slice R.fa S.fl.length R.fc) S.fl.length (R.fs.flatMap rfV))) => show (u.frozen? ⟨b, o + m * 2, none⟩ = false ∧ u.frozen? ⟨b, o + m * 2 + 1, none⟩ = false) ∧ u.cell? ⟨b, o + m * 2, none⟩ = some (.slice q.a q.x.sure.length q.c) ∧ u.cell? ⟨b, o + m * 2 + 1, none⟩ = some q.v from by
        have ha := m'.app i hi
        obtain ⟨b', o', e, hc⟩ := Rd.rec (f := rfV) (k := 2) (fun _ => rfl) ha.rd.1 HQ.out.1 (by omega)
        rw [HQ.out.2.2] at ha e
        cases e
        exact ⟨⟨ha.frozen _, ha.frozen _⟩, hc 0 _ rfl, hc 1 _ rfl⟩
      have HFR := Lib.hid FR
      clear FR
      go_region_law (go_simp; go_at_call 91; refine HN2.out.mono ?_; rintro en w5 ⟨A5, c5, rfl, M5⟩; have c3 : w5.cell? ⟨p, 1, none⟩ = some (.slice (some ⟨b, o, none⟩) S.fl.length R.fc) := (by rw [← HQ.out.2.2]; exact (M5.ob 1 rfl).cell 1 rfl); obtain ⟨⟨g1, g2⟩, g3, g4⟩ := HFR.out _ 2 _ M5 rfl)
      all_goals
        go_wp2_with fail
        go_ret
        obtain ⟨hf, ho, ha⟩ := HF.out
        obtain ⟨hq, hqx, hfa⟩ := HQ.out
        have hx := HX.out.2
        have hnl := HNL.out
        have hq2 := hf.fs q (List.mem_of_getElem? hq)
        have hqn : m < R.fs.length := (List.getElem?_eq_some_iff.1 hq).1
        have M6 := (M5.rowStore 2 (n := S.fl.length) (c := R.fc) (g := b) (o := o) (by rw [← hfa]; rfl) (m * 2) (by omega) (.slice A5 x.now.length c5)).rowStore 2 (n := S.fl.length) (c := R.fc) (g := b) (o := o) (by rfl) (m * 2 + 1) (by omega) (.slice none 0 0)
        have hc5 : x.now.length ≤ c5 := by obtain ⟨_, _, e, h⟩ := (M5.app 0 rfl).slice; cases e; exact h
        obtain ⟨q', hq'⟩ : ∃ q' : RfF, q' = ⟨⟨x.now, x.now, []⟩, A5, c5, .slice none 0 0, []⟩ := ⟨_, rfl⟩
        rw [rfV_set2 R.fs m q q' _ _ hq (by rw [hq']; rfl)] at M6
        have M7 := M6.sinkAt 0 4 rfl rfl
        have hqm : (R.fs.map rfRow)[m]? = some (rfRow q) := by rw [List.getElem?_map, hq]; rfl
        have M8 := (((((M7.bring 3).pick m hqm).drop.nilRow 118 3).unpick (by rw [List.length_map]; exact hqn)).away 3)
        obtain ⟨G', hG'⟩ : ∃ G' : Facts, G' = fun B l => G B l ∨ (B = A5 ∧ l = x.now.map bv) := ⟨_, rfl⟩
        have hmod : S.fl.modify m (fun x => { x with sure := x.now, row := [] }) = S.fl.set m ⟨x.now, x.now, []⟩ := modify_set hx _
        have hflen : (S.fl.modify m (fun x => { x with sure := x.now, row := [] })).length = S.fl.length := List.length_modify _ _ _
        have hfit : RfFit {R with fs := R.fs.set m q'} { fails S with fl := S.fl.modify m (fun x => { x with sure := x.now, row := [] }) } G' := by
          have hf' : RfFit R S G' := hf.mono (fun A l h => by rw [hG']; exact .inl h)
          refine ⟨hf'.sure, hf'.sc, hf'.seen, hf'.nc, ?_, ?_, hf'.dirs, hf'.ds⟩
          · show (R.fs.set m q').map (·.x) = S.fl.modify m (fun x => { x with sure := x.now, row := [] })
            rw [hmod, List.map_set, hf.files, hq']
          · intro y hy
            rcases List.mem_or_eq_of_mem_set hy with hy | rfl
            · exact hf'.fs y hy
            · rw [hq']
              exact ⟨by rw [hG']; exact .inr ⟨rfl, rfl⟩, hc5, rfl, fun e he => by cases he⟩
        refine ⟨rfl, G', fun A l h => by rw [hG']; exact .inl h, Mem.unrf ?_ hfit (sync_ok ho m)⟩
        have e1 : rfRow q' = row 118 3 (.slice none 0 0) 0 [] := by rw [hq']; rfl
        rw [← e1, ← List.map_set, ← hG'] at M8
        show Mem w0 (blk p 105 (rfCells R S.room (S.fl.modify m (fun x => { x with sure := x.now, row := [] })).length S.sure.length S.seen.length (S.acts + 1) (S.fuse - 1) (fails S).dead) :: row 113 2 (.slice R.fa (S.fl.modify m (fun x => { x with sure := x.now, row := [] })).length R.fc) (S.fl.modify m (fun x => { x with sure := x.now, row := [] })).length ((R.fs.set m q').flatMap rfV) :: row 102 1 R.rv S.row.length (R.ds.flatMap dsV) :: tog ((R.fs.set m q').map rfRow) :: pool G' :: cs) _
        rw [hflen, hfa]
        exact M8
end
end Go.Proofs.Ythphonkiolmkiaa
/- Layer 14, the reference walked: the numbers of a failure taken one by one; a file behind a torn act. -/
set_option linter.unusedVariables false
set_option linter.unusedSimpArgs false
namespace Go.Proofs.Ythphonkiolmkiaa
open Go.RowKit
set_option maxRecDepth 100000
set_option maxHeartbeats 8000000

theorem wrap_mid {a : Int} (h0 : -4611686018427387904 ≤ a) (h : a ≤ 4611686018427387904) : IntKind.i64.wrap a = a ∧ wrap64 a = a := by
  constructor
  · rw [IntKind.wrap_i64]; omega
  · unfold wrap64; omega
theorem takeN_drop (many : Nat) (l : List Int) (j : Nat) : (takeN many (l.drop j)).2 = l.drop (if j < l.length then j + 1 else j) := by
  by_cases h : j < l.length
  · rw [if_pos h, List.drop_eq_getElem_cons h]; rfl
  · rw [if_neg h, List.drop_of_length_le (by omega)]; rfl
theorem ref_take {g many j : Nat} {A : Option Addr} {c : Nat} {l : List Int} {cs : List Chunk} {w0 w : World} (h : Mem w0 (blk g 109 #[.slice A l.length c, nE j] :: cs) w) (hr : ∀ v, Mem w0 cs v → Rd v A (l.map iE)) (hj : j ≤ l.length) (hll : l.length ≤ 140737488355328) (h1 : 1 ≤ many) (h2 : many ≤ 1000000000000) (hi : ∀ a ∈ l, -9223372036854775808 ≤ a ∧ a ≤ 9223372036854775807) :
    Calls Try.prog 79 #[.pointer (some ⟨g, 0, none⟩), nE many] w (fun en w' => en = .returned (nE (takeN many (l.drop j)).1) ∧ Mem w0 (blk g 109 #[.slice A l.length c, nE (if j < l.length then j + 1 else j)] :: cs) w') := by
  have HM := Lib.hid h
  have c0 : w.cell? ⟨g, 0, none⟩ = some (.slice A l.length c) := (h.ob 0 rfl).cell 0 rfl
  have c1 : w.cell? ⟨g, 1, none⟩ = some (nE j) := (h.ob 0 rfl).cell 1 rfl
  have f1 : w.frozen? ⟨g, 1, none⟩ = false := (h.ob 0 rfl).free 1
  have HR := Lib.hid hr
  by_cases hlt : j < l.length
  case neg =>
    obtain rfl : j = l.length := by omega
    rw [List.drop_length, if_neg (by omega)]
    show Calls _ _ _ _ (fun en w' => en = .returned (nE 0) ∧ _)
    clear h hr hi hlt hj
    go_enter Try.func79, Try.ntmps79
    go_upto_region 1 with (fail)
    go_quiet (fail)
    all_goals
      go_wp2_with fail
      go_ret
      exact ⟨rfl, HM.out.drewN _⟩
  case pos =>
    rw [if_pos hlt]
    obtain ⟨a, ha⟩ : ∃ a, l[j]? = some a := ⟨_, List.getElem?_eq_getElem hlt⟩
    have hdrop : l.drop j = a :: l.drop (j + 1) := by
      rw [List.drop_eq_getElem_cons hlt]
      rw [List.getElem?_eq_getElem hlt] at ha
      cases ha; rfl
    rw [hdrop]
    obtain ⟨q, rfl⟩ : ∃ q, many = q + 1 := ⟨many - 1, by omega⟩
    have HH := Lib.hid (show (Int.tmod (IntKind.u64.wrap a) ((q : Int) + 1)) = (((a % 18446744073709551616).toNat % (q + 1) : Nat) : Int) by
      rw [IntKind.wrap_u64, Int.tmod_eq_emod_of_nonneg (by omega)]
      have e : ((a % 18446744073709551616).toNat : Int) = a % 18446744073709551616 := by omega
      rw [Int.natCast_emod, e]; simp)
    have HW := Lib.hid (show wrap64 (((a % 18446744073709551616).toNat % (q + 1) : Nat) : Int) = (((a % 18446744073709551616).toNat % (q + 1) : Nat) : Int) by
      have hlt := Nat.mod_lt (a % 18446744073709551616).toNat (show 0 < q + 1 by omega)
      generalize (a % 18446744073709551616).toNat % (q + 1) = z at hlt ⊢
      unfold wrap64; omega)
    show Calls _ _ _ _ (fun en w' => en = .returned (nE ((a % 18446744073709551616).toNat % (q + 1))) ∧ _)
    have hia := hi a (List.mem_of_getElem? ha)
    have hne : ((j : Int) == (l.length : Int)) = false := by simp; omega
    have i1 : (j : Int) < (l.length : Int) := by omega
    have HWJ := Lib.hid (And.intro (wrap_mid (a := (j : Int) + 1) (by omega) (by omega)) (wrap_mid (a := (j : Int)) (by omega) (by omega)))
    have HA := Lib.hid ha
    clear h hr hi hlt hj hdrop ha
    go_enter Try.func79, Try.ntmps79
    go_upto_region 1 with (fail)
    go_quiet (fail)
    all_goals
      have HM1 := Lib.hid (HM.out.drewN nq)
      clear HM
      clear c0 c1 f1
      generalize w.drewN nq = w1 at HM1 ⊢
      have c0 : w1.cell? ⟨g, 0, none⟩ = some (.slice A l.length c) := (HM1.out.ob 0 rfl).cell 0 rfl
      have c1 : w1.cell? ⟨g, 1, none⟩ = some (nE j) := (HM1.out.ob 0 rfl).cell 1 rfl
      have f1 : w1.frozen? ⟨g, 1, none⟩ = false := (HM1.out.ob 0 rfl).free 1
      go_upto_region 4 with (fail)
      have HM2 := Lib.hid (HM1.out.put 0 rfl 1 (nE (j + 1)))
      clear HM1 c0 c1 f1
      obtain ⟨b, o, e3, hk⟩ := Rd.get (HR.out _ HM2.out.drop) (i := j) (x := a) HA.out
      have c0 : (w1.setCell ⟨g, 1, none⟩ (.int .i64 ((j : Int) + 1))).cell? ⟨g, 0, none⟩ = some (.slice A l.length c) := (HM2.out.ob 0 rfl).cell 0 rfl
      have c1 : (w1.setCell ⟨g, 1, none⟩ (.int .i64 ((j : Int) + 1))).cell? ⟨g, 1, none⟩ = some (.int .i64 ((j : Int) + 1)) := (HM2.out.ob 0 rfl).cell 1 rfl
      have hk : (w1.setCell ⟨g, 1, none⟩ (.int .i64 ((j : Int) + 1))).cell? ⟨b, o + j, none⟩ = some (iE a) := hk
      rw [e3] at c0
      generalize hw : (w1.setCell ⟨g, 1, none⟩ (.int .i64 ((j : Int) + 1))) = w2 at c0 c1 hk
      have hw' : (w1.setCell ⟨g, 1, none⟩ (nE (j + 1))) = w2 := hw
      rw [hw'] at HM2
      try rw [hw]
      try rw [hw']
      clear hw hw'
      obtain ⟨⟨ww, wx⟩, wy, wz⟩ := HWJ.out
      go_quiet (fail)
      all_goals
        go_wp2_with fail
        go_ret
        rw [HH.out, HW.out]
        exact ⟨rfl, HM2.out.drewN _⟩
end Go.Proofs.Ythphonkiolmkiaa
/- Layer 14, the reference walked: a file behind a torn act. -/
set_option linter.unusedVariables false
set_option linter.unusedSimpArgs false
namespace Go.Proofs.Ythphonkiolmkiaa
open Go.RowKit
set_option maxRecDepth 100000
set_option maxHeartbeats 8000000

theorem ref_torn (b : List UInt8) (ch : Chg) (m : Nat) {A B : Option Addr} {cA cB k : Nat} {G : Facts} {w0 w : World} {cs : List Chunk} (h : Mem w0 cs w) (hk : cs[k]? = some (pool G)) (hA : G A (b.map bv)) (hB : G B (ch.b.map bv)) (hb : b.length ≤ M0) (hcA : b.length ≤ cA) (hcB : ch.b.length ≤ cB) (hok : ChOk b ch) (hm : m ≤ ch.b.length) (hcut : ch.cut = false) :
    Calls Try.prog 81 #[.slice A b.length cA, .agg #[.bool ch.cut, nE ch.off, .slice B ch.b.length cB], nE m] w (fun en w' => ∃ A' c' G', en = .returned (.slice A' (torn b ch m).length c') ∧ (∀ A l, G A l → G' A l) ∧ G' A' ((torn b ch m).map bv) ∧ (torn b ch m).length ≤ c' ∧ Mem w0 (cs.set k (pool G')) w') := by
  obtain ⟨d, hd⟩ : ∃ d, d = ch.off + m := ⟨_, rfl⟩
  obtain ⟨e, he⟩ : ∃ e, e = if d < b.length then d / 512 * 512 else d := ⟨_, rfl⟩
  have ht : torn b ch m = if ch.off < e then chDo b ⟨false, ch.off, ch.b.take (e - ch.off)⟩ else b := by
    have e1 : d / 512 * 512 = d - d % 512 := by omega
    rw [he, e1, hd]; rfl
  have hend : ch.off + ch.b.length ≤ M0 := hok.end_
  have hoff : ch.off ≤ b.length := hok.off
  have hbb : b.length ≤ 1048576 := hb
  have hee : e ≤ d := by rw [he]; split <;> omega
  have hd2 : d ≤ 1048576 := by unfold M0 at hend; omega
  have hem : e - ch.off ≤ ch.b.length := by omega
  have ho1 : ch.off ≤ 1048576 := by omega
  have hm1 : m ≤ 1048576 := by omega
  have HM := Lib.hid (h.alloc (.cells #[.bool ch.cut, nE ch.off, .slice B ch.b.length cB] 118))
  have H0 := Lib.hid (And.intro hk (And.intro hA (And.intro hB (And.intro hb (And.intro hcA (And.intro hcB hem))))))
  have HT := Lib.hid ht
  have hOK := Lib.hid (And.intro hok (And.intro hcut h))
  obtain ⟨r, hr⟩ : ∃ r, r = torn b ch m := ⟨_, rfl⟩
  rw [← hr] at HT ⊢
  have HE := Lib.hid he
  have HD := Lib.hid (And.intro hd (And.intro hee hd2))
  clear h hk hA hB hb hcA hcB hok hm hcut he ht hend hoff hem hr hee
  go_enter Try.func81, Try.ntmps81
  have c0 : (w.alloc (.cells #[.bool ch.cut, nE ch.off, .slice B ch.b.length cB] 118)).cell? ⟨w.heap.size, 0, none⟩ = some (.bool ch.cut) := (HM.out.ob 0 rfl).cell 0 rfl
  have c1 : (w.alloc (.cells #[.bool ch.cut, nE ch.off, .slice B ch.b.length cB] 118)).cell? ⟨w.heap.size, 1, none⟩ = some (nE ch.off) := (HM.out.ob 0 rfl).cell 1 rfl
  have c2 : (w.alloc (.cells #[.bool ch.cut, nE ch.off, .slice B ch.b.length cB] 118)).cell? ⟨w.heap.size, 2, none⟩ = some (.slice B ch.b.length cB) := (HM.out.ob 0 rfl).cell 2 rfl
  go_upto_region 1 with (fail)
  generalize w.alloc (.cells #[.bool ch.cut, nE ch.off, .slice B ch.b.length cB] 118) = v at HM c0 c1 c2 ⊢
  generalize w.heap.size = g at HM c0 c1 c2 ⊢
  go_upto_region 2 with (fail)
  go_upto_if 15 with (fail)
  have HM2 := Lib.hid HM.out
  clear HM
  obtain ⟨vv, hvv⟩ : ∃ vv, vv = v := ⟨_, rfl⟩
  go_cut [7] (fun t wx => t = .int .i64 (e : Int) ∧ wx = v)
  case first =>
    obtain ⟨hd, hee, hd2⟩ := HD.out
    have he := HE.out
    by_cases hlt : d < b.length
    · rw [if_pos hlt] at he
      have i1 : (ch.off : Int) + (m : Int) < (b.length : Int) := by omega
      have t1 : Int.tdiv ((ch.off : Int) + (m : Int)) 512 = ((d / 512 : Nat) : Int) := by rw [Int.tdiv_eq_ediv_of_nonneg (by omega), hd]; rfl
      have hq2 : d / 512 ≤ 1048576 := by omega
      generalize d / 512 = q at t1 he hq2
      have HQ := Lib.hid (show (q : Int) * 512 = (e : Int) by omega)
      clear he hlt hee hd2 hd HD HE HT
      go_wp2_with fail
      all_goals first | (exfalso; omega) | skip
      go_meet
      case rel => exact ⟨by rw [HQ.out], rfl⟩
    · rw [if_neg hlt] at he
      have i1 : ¬ ((ch.off : Int) + (m : Int) < (b.length : Int)) := by omega
      have HQ := Lib.hid (show (ch.off : Int) + (m : Int) = (e : Int) by omega)
      clear he hlt hee hd2 hd HD HE HT
      go_wp2_with fail
      go_meet
      case rel => exact ⟨by rw [HQ.out], rfl⟩
  case rest =>
    obtain ⟨rfl, rfl⟩ := hcut
    clear hvv
    obtain ⟨hk, hA, hB, hb, hcA, hcB, hem⟩ := H0.out
    have k1 : wc.cell? ⟨g, 1, none⟩ = some (nE ch.off) := (HM2.out.ob 0 rfl).cell 1 rfl
    have k2 : wc.cell? ⟨g, 2, none⟩ = some (.slice B ch.b.length cB) := (HM2.out.ob 0 rfl).cell 2 rfl
    by_cases hge : ch.off < e
    case neg =>
      have i1 : (e : Int) ≤ (ch.off : Int) := by omega
      have E3 := Lib.hid (show r = b by rw [HT.out, if_neg hge])
      clear hge k2 hd2 ho1 hm1 hbb hk hA hB hb hcA hcB hem c0 c1 c2
      go_wp2_with fail
      go_ret
      rw [E3.out]
      obtain ⟨hk, hA, hB, hb, hcA, hcB, hem⟩ := H0.out
      have e4 : cs.set k (pool G) = cs := by obtain ⟨h1, h2⟩ := List.getElem?_eq_some_iff.1 hk; rw [← h2]; exact List.set_getElem_self h1
      exact ⟨A, cA, G, rfl, fun _ _ h => h, hA, hcA, by rw [e4]; exact HM2.out.drop⟩
    case pos =>
      have i1 : ¬ ((e : Int) ≤ (ch.off : Int)) := by omega
      have hel : e ≤ 1048576 := by have := HD.out.2; omega
      obtain ⟨d2, hd2'⟩ : ∃ d2, d2 = e - ch.off := ⟨_, rfl⟩
      have E3 := Lib.hid (show r = chDo b ⟨false, ch.off, ch.b.take d2⟩ by rw [HT.out, if_pos hge, hd2'])
      have hde : (e : Int) - (ch.off : Int) = (d2 : Int) := by omega
      have hdb : d2 ≤ ch.b.length := by omega
      have hlen : (ch.b.take d2).length = d2 := by rw [List.length_take]; omega
      have hcBd : d2 ≤ cB := by omega
      have HW := Lib.hid (wrap_small (a := (e : Int) - (ch.off : Int)) (by omega) (by omega))
      have HCH := Lib.hid (show ChOk b ⟨false, ch.off, ch.b.take d2⟩ from ⟨hOK.out.1.off, by show ch.off + (ch.b.take d2).length ≤ M0; rw [hlen]; unfold M0; have := hOK.out.1.end_; unfold M0 at this; omega, fun h => by cases h⟩)
      have HDN := Lib.hid (show Calls Try.prog 92 #[.slice A b.length cA, .agg #[.bool false, nE ch.off, .slice B d2 cB]] wc.drew _ from by
        have h := ref_done ⟨false, ch.off, ch.b.take d2⟩ A B b cA cB HM2.out.drew (fun v m => m.rd (k + 1) (by show cs[k]? = _; exact hk) hA) (fun v m => by have h := (m.rd (k + 1) (by show cs[k]? = _; exact hk) hB).take d2; rw [← List.map_take] at h; exact h) hb hcA (by show (ch.b.take d2).length ≤ cB; omega) HCH.out
        simp only at h
        rw [hlen] at h
        exact h)
      have s1 := cut_h (P := Try.prog) 22 5 1 Try.underlying22 Try.sizeU8 B ch.b.length cB d2 hcBd wc.drew
      rw [← hde] at s1
      clear hge hd2 ho1 hm1 hbb hk hA hB hb hcA hcB hem c0 c1 c2 hd2' hde hdb hlen hcBd hel
      go_upto_region 6 with (fail)
      obtain ⟨x1, x2⟩ := HW.out
      go_still_tail 11, (by kernel_rfl)
      change wpList _ _ _ _ _ wc.drew
      clear x1 x2 s1 k1 k2
      go_wp2_with fail
      refine HDN.out.mono ?_
      rintro en w7 ⟨A7, c7, rfl, M7⟩
      have hcap7 : (chDo b ⟨false, ch.off, ch.b.take d2⟩).length ≤ c7 := by obtain ⟨_, _, e, h⟩ := (M7.app 0 rfl).slice; cases e; exact h
      have HM7 := Lib.hid (And.intro M7 hcap7)
      clear M7 hcap7 HDN
      rw [← E3.out] at HM7 ⊢
      go_wp2_with fail
      go_ret
      have M8 := HM7.out.1.sinkAt 0 (k + 1) rfl (show cs[k]? = some (pool G) from H0.out.1)
      refine ⟨A7, c7, (fun B l => G B l ∨ (B = A7 ∧ l = r.map bv)), rfl, fun A l h => Or.inl h, Or.inr ⟨rfl, rfl⟩, HM7.out.2, ?_⟩
      exact M8.drop
end Go.Proofs.Ythphonkiolmkiaa
/- Layer 14, the reference walked: Fail. -/
set_option linter.unusedVariables false
set_option linter.unusedSimpArgs false
namespace Go.Proofs.Ythphonkiolmkiaa
open Go.RowKit
set_option maxRecDepth 100000
set_option maxHeartbeats 8000000

/-- A file of what a failure leaves. -/
def rfOut (b : List UInt8) (q : RfF) : Prop := q.x = ⟨b, b, []⟩ ∧ q.v = .slice none 0 0 ∧ q.chs = []
/-- Where the reference's Fail stands behind the first k names. -/
def FailI (w0 : World) (cs : List Chunk) (p gt g : Nat) (R : RfR) (S : Fs) (G : Facts) (l l1 : List Int) (A : Option Addr) (c : Nat) (D : Dir) (k : Nat) (w : World) : Prop :=
  ∃ (G' : Facts) (jt : Nat) (fs : List RfF) (Vf Vs : Value), (∀ A l, G A l → G' A l) ∧ jt ≤ l.length ∧ l.drop jt = leftCuts S.fl (D.take k) l1 ∧ fs.map (·.x) = (leftAll S.fl (D.take k) l1).map (fun b => ⟨b, b, []⟩) ∧ (∀ q ∈ fs, RfFOk G' q ∧ q.v = .slice none 0 0 ∧ q.chs = []) ∧
    Mem w0 (rfL p R S ++ pool G' :: blk gt 109 #[.slice A l.length c, nE jt] :: blk g 105 #[nE S.room, Vf, Vs, .slice none 0 0, .slice none 0 0, nE 0, nE 0, .bool false] :: row 113 2 Vf k (fs.flatMap rfV) :: row 115 2 Vs k ((numbered ((D.take k).map (·.1))).flatMap entV) :: cs) w
theorem Mem.nilTog {w0 w : World} {cs : List Chunk} (h : Mem w0 cs w) : ∀ (fs : List RfF), (∀ q ∈ fs, q.v = .slice none 0 0 ∧ q.chs = [] ∧ q.x.row = []) → Mem w0 (tog (fs.map rfRow) :: cs) w
  | [], _ => Mem.close (l := []) h
  | q :: fs, hq => by
    have h1 := Mem.nilTog h fs (fun q hq' => hq q (List.mem_cons_of_mem _ hq'))
    obtain ⟨e1, e2, e3⟩ := hq q (List.mem_cons_self ..)
    have h2 := (h1.nilRow 118 3)
    have e : rfRow q = Go.Proofs.Ythphonkiolmkiaa.row 118 3 (.slice none 0 0) 0 [] := by unfold rfRow; rw [e1, e2, e3]; rfl
    rw [← e] at h2
    have h3 := (h2.perm (List.Perm.swap _ _ _)).open_
    refine Mem.close (l := rfRow q :: fs.map rfRow) (h3.perm ?_)
    exact List.perm_middle
section
variable {w0 w : World} {cs : List Chunk} {p : Nat} {S : Fs} {G : Facts}
theorem ref_Fail {A : Option Addr} {c : Nat} {l : List Int} (h : Mem w0 (rfC p S G :: pool G :: cs) w) (hr : ∀ v, Mem w0 cs v → Rd v A (l.map iE)) (hlc : l.length ≤ c) (hll : l.length ≤ 140737488355328) (hi : ∀ a ∈ l, -9223372036854775808 ≤ a ∧ a ≤ 9223372036854775807) (ha : S.acts < 1000000000) :
    Calls Try.prog 43 #[pE p, .slice A l.length c] w (fun en w' => ∃ q, en = .returned (pE q) ∧ ∃ G' : Facts, (∀ A l, G A l → G' A l) ∧ Mem w0 (rfC q (fsFail S l) G' :: rfC p S G' :: pool G' :: cs) w') := by
  obtain ⟨R, hf, ho, M⟩ := h.rf
  have HF := Lib.hid (And.intro hf (And.intro ho (And.intro hi (And.intro ha (And.intro hlc hll)))))
  have HRD := Lib.hid hr
  have HM := Lib.hid ((M.alloc (.cells #[.slice A l.length c, nE 0] 109)).away 5)
  obtain ⟨Av, cv, hv, hcv⟩ : ∃ A c, R.rv = .slice A S.row.length c ∧ S.row.length ≤ c := (M.app 2 rfl).slice
  have HRV := Lib.hid hv
  obtain ⟨D, hD⟩ : ∃ D, D = failDir S l := ⟨_, rfl⟩
  obtain ⟨k, hk⟩ : ∃ k, k = (takeN (S.row.length + 1) l).1 := ⟨_, rfl⟩
  obtain ⟨l1, hl1⟩ : ∃ l1, l1 = (takeN (S.row.length + 1) l).2 := ⟨_, rfl⟩
  have hkl := takeN_lt (many := S.row.length + 1) (by omega) l
  rw [← hk] at hkl
  have HRES := Lib.hid (show fsFail S l = mkFs S.room (leftAll S.fl D l1) (dNames D) by rw [hD, hl1]; rfl)
  have HD := Lib.hid (And.intro (show DirIn S.fl.length D by rw [hD]; exact failDir_in ho l) (show D = (S.row.take k).foldl dirDo S.sure by rw [hD, hk]; rfl))
  have hrl : S.row.length ≤ 1000000000 := by have := ho.rowl; omega
  have HK := Lib.hid (And.intro hk (And.intro hl1 (And.intro hkl hrl)))
  clear h hr hf ho hi M hv hlc hll hk hl1 hkl hD ha
  go_enter Try.func43, Try.ntmps43
  go_upto_region 2 with (fail)
  generalize w.alloc (.cells #[.slice A l.length c, nE 0] 109) = v at HM ⊢
  generalize w.heap.size = gt at HM ⊢
  have c2 : v.cell? ⟨p, 2, none⟩ = some (.slice R.sa S.sure.length R.sc) := (HM.out.ob 0 rfl).cell 2 rfl
  have c3 : v.cell? ⟨p, 3, none⟩ = some (.slice Av S.row.length cv) := by rw [← HRV.out]; exact (HM.out.ob 0 rfl).cell 3 rfl
  have HTK := Lib.hid (show Calls Try.prog 79 #[.pointer (some ⟨gt, 0, none⟩), .int .i64 ((S.row.length : Int) + 1)] v _ from
    ref_take (many := S.row.length + 1) (HM.out.bring 5) (fun v m => HRD.out v m.drop.drop.drop.drop.drop) (Nat.zero_le _) HF.out.2.2.2.2.2 (by omega) (by omega) HF.out.2.2.1)
  rw [List.drop_zero, ← HK.out.1] at HTK
  go_wp2_with fail
  refine HTK.out.mono ?_
  rintro en w1 ⟨rfl, M1⟩
  obtain ⟨jt, hjt⟩ : ∃ jt, jt = (if 0 < l.length then 0 + 1 else 0) := ⟨_, rfl⟩
  rw [← hjt] at M1
  have HJT := Lib.hid (show jt ≤ l.length ∧ l.drop jt = l1 by
    have h1 := takeN_drop (S.row.length + 1) l 0
    rw [List.drop_zero, ← hjt] at h1
    exact ⟨by rw [hjt]; split <;> omega, by rw [← h1, HK.out.2.1]⟩)
  have HM1 := Lib.hid (M1.away 5)
  clear M1 hjt HTK HM c2 c3
  go_upto_if 30 with (fail)
  go_cut [6] (fun t wx => (∃ AD cD, t = .slice AD D.length cD ∧ D.length ≤ cD ∧ Hid (G AD (D.flatMap entV))) ∧ wx = w1)
  case first =>
    have hkl := HK.out.2.2.1
    have hrl2 := HK.out.2.2.2
    have hDk := HD.out.2
    clear HK HJT HRES
    cases k with
    | zero =>
      have e : D = S.sure := by rw [hDk]; rfl
      have HE := Lib.hid e
      clear hDk e HD hkl hrl2
      go_wp2_with fail
      go_meet
      case rel =>
        rw [HE.out]
        exact ⟨⟨R.sa, R.sc, rfl, HF.out.1.sc, Lib.hid HF.out.1.sure⟩, rfl⟩
    | succ m =>
      have hds : R.ds.length = S.row.length := by rw [← List.length_map (f := (·.1)), HF.out.1.dirs, dirsOf_len]
      obtain ⟨⟨D', AD, cD⟩, hq⟩ : ∃ q, R.ds[m]? = some q := ⟨_, List.getElem?_eq_getElem (show m < R.ds.length by omega)⟩
      have e : D' = D := by
        have h1 := dirsOf_at S.row S.sure m (by omega)
        rw [← HF.out.1.dirs, List.getElem?_map, hq] at h1
        rw [hDk]
        simpa using h1
      subst e
      obtain ⟨hG, hc⟩ := HF.out.1.ds _ (List.mem_of_getElem? hq)
      have happ := HM1.out.app 2 rfl
      rw [HRV.out] at happ
      obtain ⟨bb, oo, hAv, hcell⟩ := Rd.rec (f := dsV) (k := 1) (fun _ => rfl) happ.rd.1 hq (by omega)
      subst hAv
      have k0 : w1.cell? ⟨bb, oo + m, none⟩ = some (.slice AD D'.length cD) := by
        have := hcell 0 _ rfl
        rw [Nat.mul_one, Nat.add_zero] at this
        exact this
      have c3 : w1.cell? ⟨p, 3, none⟩ = some (.slice (some ⟨bb, oo, none⟩) S.row.length cv) := by rw [← HRV.out]; exact (HM1.out.ob 0 rfl).cell 3 rfl
      have i1 : (0 : Int) < (m : Int) + 1 := by omega
      have i2 : (m : Int) < (S.row.length : Int) := by omega
      have i3 : (0 : Int) ≤ (m : Int) := by omega
      have HG := Lib.hid (And.intro hG hc)
      clear hcell happ hds hq hDk HD hkl hG hc
      go_wp2_with fail
      go_meet
      case rel => exact ⟨⟨AD, cD, rfl, HG.out.2, Lib.hid HG.out.1⟩, rfl⟩
  case rest =>
    obtain ⟨⟨AD, cD, rfl, hcD, HGD⟩, rfl⟩ := hcut
    have c0 : wc.cell? ⟨p, 0, none⟩ = some (nE S.room) := (HM1.out.ob 0 rfl).cell 0 rfl
    have HI0 := Lib.hid (show FailI w0 cs p gt wc.heap.size R S G l l1 A c D 0 (wc.alloc (.cells #[nE S.room, .slice none 0 0, .slice none 0 0, .slice none 0 0, .slice none 0 0, nE 0, nE 0, .bool false] 105)) from
      ⟨G, jt, [], .slice none 0 0, .slice none 0 0, fun _ _ h => h, HJT.out.1, HJT.out.2, rfl, (fun q hq => by cases hq),
        ((((HM1.out.alloc (.cells #[nE S.room, .slice none 0 0, .slice none 0 0, .slice none 0 0, .slice none 0 0, nE 0, nE 0, .bool false] 105)).away 6).nilRow 113 2).away 7).nilRow 115 2 |>.away 8⟩)
    clear HM1 HJT
    go_upto_region 7 with (fail)
    clear c0
    generalize wc.alloc (.cells #[nE S.room, .slice none 0 0, .slice none 0 0, .slice none 0 0, .slice none 0 0, nE 0, nE 0, .bool false] 105) = v2 at HI0 ⊢
    generalize wc.heap.size = g at HI0 ⊢
    go_wp2_with fail
    go_loopw [9] (fun v9 wr => ∃ j : Nat, v9 = .int .i64 j ∧ j ≤ D.length ∧ Hid (FailI w0 cs p gt g R S G l l1 A c D j wr)) (fun v9 _ => D.length - (intOf v9).toNat)
    case atStart => exact ⟨0, rfl, Nat.zero_le _, HI0⟩
    case round =>
      obtain ⟨j, rfl, hj, HI⟩ := hrel
      clear HI0
      by_cases hlt : j < D.length
      case neg =>
        obtain rfl : j = D.length := by omega
        have i1 : ¬ ((D.length : Int) < (D.length : Int)) := by omega
        obtain ⟨G1, jt1, fs, Vf, Vs, hGG, hjt1, hdr, hfs, hq, M⟩ := HI.out
        obtain ⟨As, cs1, hVs, hcs1⟩ := (M.app 8 rfl).slice
        subst hVs
        have c2 : wr.cell? ⟨g, 2, none⟩ = some (.slice As D.length cs1) := (M.ob 6 rfl).cell 2 rfl
        have c4 : wr.cell? ⟨g, 4, none⟩ = some (.slice none 0 0) := (M.ob 6 rfl).cell 4 rfl
        have f4 := (M.ob 6 rfl).free 4
        have HX := Lib.hid (And.intro hGG (And.intro hfs (And.intro hq (And.intro M hcs1))))
        clear hGG hjt1 hdr hfs hq M hj hlt HI hcs1
        go_wp2_with fail
        go_ret
        obtain ⟨hGG, hfs, hq, M, hcs1⟩ := HX.out
        obtain ⟨Af, cf, hVf, hcf⟩ := (M.app 7 rfl).slice
        subst hVf
        obtain ⟨hf, ho, _, _, _, _⟩ := HF.out
        rw [List.take_length] at hfs M
        have hok := fail_ok ho l
        rw [HRES.out] at hok ⊢
        obtain ⟨bs, hbs⟩ : ∃ bs, bs = leftAll S.fl D l1 := ⟨_, rfl⟩
        have hbl : bs.length = D.length := by rw [hbs, leftAll_len]
        rw [← hbs] at hfs hok ⊢
        have M1 := (M.put 6 rfl 4 (.slice As D.length cs1)).sinkAt 8 4 rfl rfl
        obtain ⟨G2, hG2⟩ : ∃ G2 : Facts, G2 = fun B l => G1 B l ∨ (B = As ∧ l = (numbered (D.map (·.1))).flatMap entV) := ⟨_, rfl⟩
        have M2 := (M1.bring 5).drop
        have hq2 : ∀ q ∈ fs, q.v = .slice none 0 0 ∧ q.chs = [] ∧ q.x.row = [] := fun q hqm => by
          obtain ⟨h1, h2, h3⟩ := hq q hqm
          exact ⟨h2, h3, by rw [← h1.row, h3]; rfl⟩
        have M3 := ((((M2.nilTog fs hq2).nilRow 102 1).bring 8).bring 8)
        have hfit : RfFit ⟨Af, cf, As, cs1, As, cs1, .slice none 0 0, fs, []⟩ (mkFs S.room bs (dNames D)) G2 := by
          have hent : G2 As ((numbered (dNames D)).flatMap entV) := by rw [hG2]; exact .inr ⟨rfl, rfl⟩
          have hlen : (numbered (dNames D)).length ≤ cs1 := by rw [numbered_len]; show (D.map _).length ≤ _; rw [List.length_map]; exact hcs1
          refine ⟨hent, hlen, hent, hlen, hfs, fun q hqm => ?_, rfl, fun d hd => by cases hd⟩
          have h1 := (hq q hqm).1
          exact ⟨by rw [hG2]; exact .inl h1.sure, h1.c, h1.row, fun e he => ⟨by rw [hG2]; exact .inl (h1.ch e he).1, (h1.ch e he).2⟩⟩
        have M4 : Mem w0 (rfL g ⟨Af, cf, As, cs1, As, cs1, .slice none 0 0, fs, []⟩ (mkFs S.room bs (dNames D)) ++ (rfL p R S ++ pool G2 :: cs)) (wr.setCell ⟨g, 4, none⟩ (.slice As D.length cs1)) := by
          have e1 : (mkFs S.room bs (dNames D)).fl.length = D.length := by show (bs.map _).length = _; rw [List.length_map, hbl]
          have e2 : (mkFs S.room bs (dNames D)).sure.length = D.length := by show (numbered (dNames D)).length = _; rw [numbered_len]; show (D.map _).length = _; rw [List.length_map]
          have e3 : (mkFs S.room bs (dNames D)).seen.length = D.length := e2
          unfold rfL
          rw [e1, e2, e3, hG2]
          exact M3
        have M5 := ((M4.unrf hfit hok).away 4)
        have M6 := (Mem.unrf (R := R) (S := S) (G := G2) M5 (hf.mono (fun A l h => by rw [hG2]; exact .inl (hGG _ _ h))) ho).bring 1
        exact ⟨g, rfl, G2, fun A l h => by rw [hG2]; exact .inl (hGG _ _ h), M6⟩
      case pos =>
        have hlt2 : (j : Int) < (D.length : Int) := by omega
        obtain ⟨G1, jt1, fs, Vf, Vs, hGG, hjt1, hdr, hfs, hq, M⟩ := HI.out
        obtain ⟨⟨s, n⟩, hDj⟩ : ∃ e, D[j]? = some e := ⟨_, List.getElem?_eq_getElem hlt⟩
        obtain ⟨hn1, hn2⟩ := HD.out.1.pos _ (List.mem_of_getElem? hDj)
        simp only at hn1 hn2
        obtain ⟨hx, hxo⟩ := flAt_ok HF.out.2.1 hn1 hn2
        obtain ⟨x, hxe⟩ : ∃ x, x = flAt S.fl n := ⟨_, rfl⟩
        rw [← hxe] at hx hxo
        obtain ⟨q, hqq, hqx⟩ := HF.out.1.at hx
        obtain ⟨b, o, hfa, _, hcell1⟩ := rf_cells M hqq
        have hqo := HF.out.1.fs _ (List.mem_of_getElem? hqq)
        obtain ⟨bd, od, eD, hcell⟩ := Rd.rec (f := entV) (k := 2) (fun _ => rfl) (M.rd 4 rfl (hGG _ _ HGD.out)) hDj (by omega)
        subst eD
        have hxr : x.row.length ≤ 1000000000 := by have := HF.out.2.1.frow x (List.mem_of_getElem? hx); have := HF.out.2.2.2.1; omega
        have hnl : n - 1 < S.fl.length := by omega
        have c1 : wr.cell? ⟨p, 1, none⟩ = some (.slice (some ⟨b, o, none⟩) S.fl.length R.fc) := by rw [← hfa]; exact (M.ob 0 rfl).cell 1 rfl
        have k1 : wr.cell? ⟨bd, od + j * 2 + 1, none⟩ = some (nE (n - 1)) := hcell 1 _ rfl
        have HN := Lib.hid (And.intro hDj (And.intro hxe (And.intro hx (And.intro hxo (And.intro hqq (And.intro hqx (And.intro hfa hqo)))))))
        have HX := Lib.hid (And.intro hGG (And.intro hjt1 (And.intro hdr (And.intro hfs hq))))
        have HM := Lib.hid M
        clear hGG hjt1 hdr hfs hq M HI hDj hxe hx hxo hqq hqx hfa hqo hcell hcell1 hn1 hn2 hlt
        generalize n - 1 = m at k1 hnl HN
        have i2 : (m : Int) < (S.fl.length : Int) := by omega
        go_upto_region 10 with (fail)
        go_quiet (fail)
        all_goals
          have HM1 := Lib.hid (HM.out.drewN nq)
          clear HM c1 k1
          generalize wr.drewN nq = w2 at HM1 ⊢
          have hxl : q.x.row.length = x.row.length := by rw [HN.out.2.2.2.2.2.1]
          have hqm : (R.fs.map rfRow)[m]? = some (rfRow q) := by rw [List.getElem?_map, HN.out.2.2.2.2.1]; rfl
          have hqapp : ∀ (G' : Facts) (cs' : List Chunk) (v : World), Mem w0 (rfL p R S ++ pool G' :: cs') v → App v 0 118 3 q.v x.row.length (q.chs.flatMap chv) := fun G' cs' v m => by
            obtain ⟨ds, m1⟩ := m.inTog 3 rfl (j := _) hqm
            have h1 := m1.app 0 rfl
            rw [hxl] at h1
            exact h1
          have hqcell : ∀ (G' : Facts) (cs' : List Chunk) (v : World), Mem w0 (rfL p R S ++ pool G' :: cs') v → v.cell? ⟨b, o + m * 2 + 1, none⟩ = some q.v := fun G' cs' v h => by
            obtain ⟨b', o', e', hs0, hs1⟩ := rf_cells h HN.out.2.2.2.2.1
            rw [HN.out.2.2.2.2.2.2.1] at e'
            cases e'
            exact hs1
          have HQA := Lib.hid (And.intro hqapp hqcell)
          obtain ⟨Av2, cv2, hqv, hcv2⟩ := (hqapp _ _ _ HM1.out).slice
          have HQV := Lib.hid (And.intro hqv hcv2)
          have d1 : w2.cell? ⟨b, o + m * 2 + 1, none⟩ = some (.slice Av2 x.row.length cv2) := by rw [← hqv]; exact hqcell _ _ _ HM1.out
          clear hqapp hqcell hqv hcv2 hxl hqm
          have HTK2 := Lib.hid (show Calls Try.prog 79 #[.pointer (some ⟨gt, 0, none⟩), .int .i64 ((x.row.length : Int) + 1)] w2 _ from
            ref_take (many := x.row.length + 1) (HM1.out.bring 5) (fun v m => HRD.out v m.drop.drop.drop.drop.drop.drop.drop.drop) HX.out.2.1 HF.out.2.2.2.2.2 (by omega) (by omega) HF.out.2.2.1)
          obtain ⟨t1, ht1⟩ : ∃ t, t = (takeN (x.row.length + 1) (l.drop jt1)).1 := ⟨_, rfl⟩
          have htl := takeN_lt (many := x.row.length + 1) (by omega) (l.drop jt1)
          rw [← ht1] at HTK2 htl
          obtain ⟨jt2, hjt2⟩ : ∃ jt2, jt2 = (if jt1 < l.length then jt1 + 1 else jt1) := ⟨_, rfl⟩
          rw [← hjt2] at HTK2
          have hdr2 := takeN_drop (x.row.length + 1) l jt1
          rw [← hjt2] at hdr2
          obtain ⟨b1, hb1⟩ : ∃ b1, b1 = (x.row.take t1).foldl chDo x.sure := ⟨_, rfl⟩
          have HLEFT := Lib.hid (show leftOfF x (l.drop jt1) = match x.row[t1]? with | none => (b1, l.drop jt2) | some c => if c.cut then (b1, l.drop jt2) else (torn b1 c (takeN (c.b.length + 1) (l.drop jt2)).1, (takeN (c.b.length + 1) (l.drop jt2)).2) by
            rw [hb1, ← hdr2, ht1]; rfl)
          have HT1 := Lib.hid (And.intro (show jt2 ≤ l.length by rw [hjt2]; have := HX.out.2.1; split <;> omega) (And.intro (show t1 ≤ x.row.length by omega) hb1))
          have hb1l : b1.length ≤ M0 := by rw [hb1]; exact rowOk_len (rowOk_take HN.out.2.2.2.1.row t1) HN.out.2.2.2.1.sure
          have HBY := Lib.hid (fun (v : World) (m' : Mem w0 (rfL p R S ++ pool G1 :: blk gt 109 #[.slice A l.length c, nE jt2] :: blk g 105 #[nE S.room, Vf, Vs, .slice none 0 0, .slice none 0 0, nE 0, nE 0, .bool false] :: row 113 2 Vf j (fs.flatMap rfV) :: row 115 2 Vs j ((numbered ((D.take j).map (·.1))).flatMap entV) :: cs) v) =>
            ref_bytesAt (k := t1) m' (HF.out.1.mono HX.out.1) HF.out.2.1 HF.out.2.2.2.1 HN.out.2.2.1 HN.out.2.2.2.2.2.2.1 HT1.out.2.1)
          rw [← hb1] at HBY
          clear ht1 hjt2 hdr2 hb1 htl
          go_wp2_with fail
          refine HTK2.out.mono ?_
          rintro en w3 ⟨rfl, M3⟩
          have HM3 := Lib.hid (M3.away 5)
          clear M3 HTK2 HM1 d1
          go_wp2_with fail
          refine (HBY.out w3 HM3.out).mono ?_
          rintro en w4 ⟨A2, c2, rfl, M4⟩
          have hc2 : b1.length ≤ c2 := by obtain ⟨_, _, e, h⟩ := (M4.app 0 rfl).slice; cases e; exact h
          have HM4 := Lib.hid (M4.sinkAt 0 4 rfl rfl)
          clear M4 HM3 HBY
          have HC2 := Lib.hid (And.intro hc2 hb1l)
          clear hc2 hb1l
          have HCH := Lib.hid (show ∀ ch, x.row[t1]? = some ch → ∃ (B : Option Addr) (cB ba oa : Nat), Av2 = some ⟨ba, oa, none⟩ ∧ G B (ch.b.map bv) ∧ ch.b.length ≤ cB ∧ ∀ (G' : Facts) (cs' : List Chunk) (v : World), Mem w0 (rfL p R S ++ pool G' :: cs') v → v.cell? ⟨ba, oa + t1 * 3, none⟩ = some (.bool ch.cut) ∧ v.cell? ⟨ba, oa + t1 * 3 + 1, none⟩ = some (nE ch.off) ∧ v.cell? ⟨ba, oa + t1 * 3 + 2, none⟩ = some (.slice B ch.b.length cB) from fun ch hrow => by
            have hrow2 : (q.chs.map (·.1))[t1]? = some ch := by rw [HN.out.2.2.2.2.2.2.2.row, HN.out.2.2.2.2.2.1]; exact hrow
            rw [List.getElem?_map] at hrow2
            obtain ⟨⟨ch', B, cB⟩, hqc, e⟩ := Option.map_eq_some_iff.1 hrow2
            simp only at e
            subst e
            obtain ⟨hB, hcB⟩ := HN.out.2.2.2.2.2.2.2.ch _ (List.mem_of_getElem? hqc)
            have key : ∀ (G' : Facts) (cs' : List Chunk) (v : World), Mem w0 (rfL p R S ++ pool G' :: cs') v → ∃ ba oa, Av2 = some ⟨ba, oa, none⟩ ∧ v.cell? ⟨ba, oa + t1 * 3, none⟩ = some (.bool ch'.cut) ∧ v.cell? ⟨ba, oa + t1 * 3 + 1, none⟩ = some (nE ch'.off) ∧ v.cell? ⟨ba, oa + t1 * 3 + 2, none⟩ = some (.slice B ch'.b.length cB) := fun G' cs' v m' => by
              have ha := HQA.out.1 _ _ _ m'
              rw [HQV.out.1] at ha
              obtain ⟨ba, oa, e, hc⟩ := Rd.rec (f := chv) (k := 3) (fun _ => rfl) ha.rd.1 hqc (by omega)
              exact ⟨ba, oa, e, hc 0 _ rfl, hc 1 _ rfl, hc 2 _ rfl⟩
            obtain ⟨ba, oa, e, _⟩ := key _ _ _ HM4.out
            refine ⟨B, cB, ba, oa, e, hB, hcB, fun G' cs' v m' => ?_⟩
            obtain ⟨ba', oa', e', h3⟩ := key _ _ _ m'
            rw [e] at e'
            cases e'
            exact h3)
          obtain ⟨gd, hgd⟩ : ∃ gd : Bool, gd = (match x.row[t1]? with | none => false | some ch => !ch.cut) := ⟨_, rfl⟩
          have HGDD := Lib.hid hgd
          clear hgd
          go_upto_region 13 with (fail)
          go_cut [89] (fun t wx => t = .bool gd ∧ wx = w4)
          case first =>
            have d1 : w4.cell? ⟨b, o + m * 2 + 1, none⟩ = some (.slice Av2 x.row.length cv2) := by rw [← HQV.out.1]; exact HQA.out.2 _ _ _ HM4.out
            have hgd := HGDD.out
            cases hrow : x.row[t1]? with
            | none =>
              have hge : ¬ t1 < x.row.length := fun h => by rw [List.getElem?_eq_getElem h] at hrow; cases hrow
              have i1 : ¬ ((t1 : Int) < (x.row.length : Int)) := by omega
              rw [hrow] at hgd
              have HE := Lib.hid hgd
              clear hgd hrow hge
              go_wp2_with fail
              go_meet
              case rel => rw [HE.out]; exact ⟨rfl, rfl⟩
            | some ch =>
              have hlt1 : t1 < x.row.length := (List.getElem?_eq_some_iff.1 hrow).1
              have i1 : (t1 : Int) < (x.row.length : Int) := by omega
              have i3 : (0 : Int) ≤ (t1 : Int) := by omega
              rw [hrow] at hgd
              obtain ⟨B, cB, ba, oa, e, hB, hcB, hcc⟩ := HCH.out ch hrow
              have d2 := (hcc _ _ _ HM4.out).1
              subst e
              have HE := Lib.hid hgd
              clear hgd hrow hlt1 hB hcB hcc
              go_wp2_with fail
              go_meet
              case rel => rw [HE.out]; exact ⟨rfl, rfl⟩
          case rest =>
            obtain ⟨rfl, rfl⟩ := hcut
            obtain ⟨r1, hr1⟩ : ∃ r1, r1 = (leftOfF x (l.drop jt1)).1 := ⟨_, rfl⟩
            obtain ⟨L2, hL2⟩ : ∃ L2, L2 = (leftOfF x (l.drop jt1)).2 := ⟨_, rfl⟩
            have HR1 := Lib.hid (And.intro hr1 hL2)
            clear hr1 hL2
            go_upto_if 89 with (fail)
            go_cut [12] (fun t wx => ∃ (A5 : Option Addr) (c5 jt3 : Nat) (G3 : Facts), t = .slice A5 r1.length c5 ∧ Hid ((∀ A l, G1 A l → G3 A l) ∧ jt3 ≤ l.length ∧ l.drop jt3 = L2 ∧ G3 A5 (r1.map bv) ∧ r1.length ≤ c5 ∧
              Mem w0 (rfL p R S ++ pool G3 :: blk gt 109 #[.slice A l.length c, nE jt3] :: blk g 105 #[nE S.room, Vf, Vs, .slice none 0 0, .slice none 0 0, nE 0, nE 0, .bool false] :: row 113 2 Vf j (fs.flatMap rfV) :: row 115 2 Vs j ((numbered ((D.take j).map (·.1))).flatMap entV) :: cs) wx))
            case first =>
              have hgd := HGDD.out
              have hleft := HLEFT.out
              cases hrow : x.row[t1]? with
              | none =>
                rw [hrow] at hgd hleft
                simp only at hgd hleft
                have hR : r1 = b1 ∧ L2 = l.drop jt2 := ⟨by rw [HR1.out.1, hleft], by rw [HR1.out.2, hleft]⟩
                have HRR := Lib.hid hR
                subst hgd
                clear hleft hR hrow
                go_wp2_with fail
                go_meet
                case rel =>
                  rw [HRR.out.1, HRR.out.2]
                  exact ⟨A2, c2, jt2, _, rfl, Lib.hid ⟨fun _ _ h => Or.inl h, HT1.out.1, rfl, Or.inr ⟨rfl, rfl⟩, HC2.out.1, HM4.out⟩⟩
              | some ch =>
                rw [hrow] at hgd hleft
                simp only at hgd hleft
                cases hcut : ch.cut with
                | true =>
                  rw [hcut] at hgd hleft
                  rw [if_pos rfl] at hleft
                  have hR : r1 = b1 ∧ L2 = l.drop jt2 := ⟨by rw [HR1.out.1, hleft], by rw [HR1.out.2, hleft]⟩
                  have HRR := Lib.hid hR
                  replace hgd : gd = false := hgd
                  subst hgd
                  clear hleft hR hrow hcut
                  go_wp2_with fail
                  go_meet
                  case rel =>
                    rw [HRR.out.1, HRR.out.2]
                    exact ⟨A2, c2, jt2, _, rfl, Lib.hid ⟨fun _ _ h => Or.inl h, HT1.out.1, rfl, Or.inr ⟨rfl, rfl⟩, HC2.out.1, HM4.out⟩⟩
                | false =>
                  rw [hcut] at hgd hleft
                  rw [if_neg (by simp)] at hleft
                  replace hgd : gd = true := hgd
                  subst hgd
                  obtain ⟨B, cB, ba, oa, e, hB, hcB, hcc⟩ := HCH.out ch hrow
                  have hok := foldDo_ok HN.out.2.2.2.1 hrow
                  rw [← HT1.out.2.2] at hok
                  subst e
                  have hlt1 : t1 < x.row.length := (List.getElem?_eq_some_iff.1 hrow).1
                  have i1 : (t1 : Int) < (x.row.length : Int) := by omega
                  have i3 : (0 : Int) ≤ (t1 : Int) := by omega
                  have hchb : ch.b.length ≤ 1048576 := by have := hok.1.end_; unfold M0 at this; omega
                  have d1 : wc.cell? ⟨b, o + m * 2 + 1, none⟩ = some (.slice (some ⟨ba, oa, none⟩) x.row.length cv2) := by rw [← HQV.out.1]; exact HQA.out.2 _ _ _ HM4.out
                  have d2 := (hcc _ _ _ HM4.out).2.2
                  have HTK3 := Lib.hid (show Calls Try.prog 79 #[.pointer (some ⟨gt, 0, none⟩), .int .i64 ((ch.b.length : Int) + 1)] wc _ from
                    ref_take (many := ch.b.length + 1) (HM4.out.bring 5) (fun v m => HRD.out v m.drop.drop.drop.drop.drop.drop.drop.drop) HT1.out.1 HF.out.2.2.2.2.2 (by omega) (by omega) HF.out.2.2.1)
                  obtain ⟨t3, ht3⟩ : ∃ t, t = (takeN (ch.b.length + 1) (l.drop jt2)).1 := ⟨_, rfl⟩
                  have htl3 := takeN_lt (many := ch.b.length + 1) (by omega) (l.drop jt2)
                  rw [← ht3] at HTK3 htl3
                  obtain ⟨jt3, hjt3⟩ : ∃ jt3, jt3 = (if jt2 < l.length then jt2 + 1 else jt2) := ⟨_, rfl⟩
                  rw [← hjt3] at HTK3
                  have hdr3 := takeN_drop (ch.b.length + 1) l jt2
                  rw [← hjt3] at hdr3
                  have hR : r1 = torn b1 ch t3 ∧ L2 = l.drop jt3 := ⟨by rw [HR1.out.1, hleft, ht3], by rw [HR1.out.2, hleft, hdr3]⟩
                  have HRR := Lib.hid (And.intro hR (show jt3 ≤ l.length by rw [hjt3]; have := HT1.out.1; split <;> omega))
                  have HCC := Lib.hid (And.intro hcc (And.intro hB (And.intro hcB (And.intro hok.1 (And.intro (show t3 ≤ ch.b.length by omega) hcut)))))
                  clear hleft hR hrow hcut hok hdr3 hjt3 ht3 htl3 hcc hB hcB hlt1
                  go_wp2_with fail
                  refine HTK3.out.mono ?_
                  rintro en w5 ⟨rfl, M5⟩
                  have HM5 := Lib.hid (M5.away 5)
                  clear M5 HTK3 d1 d2
                  have d1 : w5.cell? ⟨b, o + m * 2 + 1, none⟩ = some (.slice (some ⟨ba, oa, none⟩) x.row.length cv2) := by rw [← HQV.out.1]; exact HQA.out.2 _ _ _ HM5.out
                  obtain ⟨e0, e1, e2⟩ := HCC.out.1 _ _ _ HM5.out
                  have HTO := Lib.hid (ref_torn b1 ch t3 (A := A2) (B := B) (cA := c2) (cB := cB) (k := 4) HM5.out rfl (.inr ⟨rfl, rfl⟩) (.inl (HX.out.1 _ _ HCC.out.2.1)) HC2.out.2 HC2.out.1 HCC.out.2.2.1 HCC.out.2.2.2.1 HCC.out.2.2.2.2.1 HCC.out.2.2.2.2.2)
                  go_wp2_with fail
                  refine HTO.out.mono ?_
                  rintro en w6 ⟨A6, c6, G6, rfl, hGG6, hG6, hc6, M6⟩
                  have H6 := Lib.hid (And.intro hGG6 (And.intro hG6 (And.intro hc6 M6)))
                  clear hGG6 hG6 hc6 M6 HTO HM5 HM4 d1 e0 e1 e2
                  go_wp2_with fail
                  go_meet
                  case rel =>
                    rw [HRR.out.1.1, HRR.out.1.2]
                    exact ⟨A6, c6, jt3, G6, rfl, Lib.hid ⟨fun _ _ h => H6.out.1 _ _ (Or.inl h), HRR.out.2, rfl, H6.out.2.1, H6.out.2.2.1, H6.out.2.2.2⟩⟩
            case rest =>
              obtain ⟨A5, c5, jt3, G3, rfl, H6⟩ := hcut
              clear HM4 HGDD HCH HLEFT
              have HM6 := Lib.hid H6.out.2.2.2.2.2
              obtain ⟨Af, cf, hVf, hcf⟩ := (HM6.out.app 7 rfl).slice
              have HVF := Lib.hid hVf
              have c1 : wc.cell? ⟨g, 1, none⟩ = some (.slice Af j cf) := by rw [← hVf]; exact (HM6.out.ob 6 rfl).cell 1 rfl
              have happ := HM6.out.app 7 rfl
              rw [hVf] at happ
              have HAPP := Lib.hid happ
              have hj64 : j ≤ 1000 := by have := HD.out.1.len; omega
              clear happ hVf
              go_upto_region 17 with (at_builtin; go_must (refine append_one rfl _ _ 101 113 (.agg #[.slice none 0 0, .slice none 0 0]) 2 48 rfl Try.underlying101 Try.infoFile rfl (by decide) 0 (ys := [.slice A5 r1.length c5, .slice none 0 0]) HAPP.out (by rfl) (by rfl) (by rfl) (by intro u hu; simp at hu; rcases hu with rfl | rfl <;> rfl) (by omega) (by omega) (Nat.zero_le _) ?_); intro v7 w7 hown7 hgr7 hat7; obtain ⟨A7, c7, rfl, hcc7⟩ := hown7.slice; rw [← HVF.out] at hgr7 hat7; have M7 := HM6.out.growOne 7 rfl hown7 hgr7 hat7; have n1 : w7.cell? ⟨g, 1, none⟩ = some Vf := (M7.ob 6 rfl).cell 1 rfl; have nf1 : w7.frozen? ⟨g, 1, none⟩ = false := (M7.ob 6 rfl).free 1)
              have HM8 := Lib.hid (M7.put 6 rfl 1 (.slice A7 (j + 1) c7))
              clear M7 HM6 HAPP c1 hown7 hgr7 hat7 n1 nf1 hcc7 HVF hcf
              generalize w7.setCell ⟨g, 1, none⟩ (.slice A7 (j + 1) c7) = v8 at HM8 ⊢
              obtain ⟨As, cs1, hVs, hcs1⟩ := (HM8.out.app 8 rfl).slice
              have HVS := Lib.hid hVs
              have c2' : v8.cell? ⟨g, 2, none⟩ = some (.slice As j cs1) := by rw [← hVs]; exact (HM8.out.ob 6 rfl).cell 2 rfl
              have hdir : ∀ (cs' : List Chunk) (v : World), Mem w0 cs' v → cs'[4]? = some (pool G3) ∨ cs'[5]? = some (pool G3) → v.cell? ⟨bd, od + j * 2, none⟩ = some (sE s) := fun cs' v m' hor => by
                have hG3 : G3 (some ⟨bd, od, none⟩) (D.flatMap entV) := H6.out.1 _ _ (HX.out.1 _ _ HGD.out)
                have hrd : Rd v (some ⟨bd, od, none⟩) (D.flatMap entV) := by
                  rcases hor with h | h
                  · exact m'.rd 4 h hG3
                  · exact m'.rd 5 h hG3
                obtain ⟨b', o', e, hc⟩ := Rd.rec (f := entV) (k := 2) (fun _ => rfl) hrd HN.out.1 (by omega)
                cases e
                exact hc 0 _ rfl
              have HDIR := Lib.hid hdir
              have k0 : v8.cell? ⟨bd, od + j * 2, none⟩ = some (sE s) := hdir _ _ HM8.out (.inl rfl)
              have ma := HM8.out.alloc (.cells #[sE s, .int .i64 (j : Int)] 115)
              have MA := Lib.hid ma.drew
              have c3 : (v8.alloc (.cells #[sE s, .int .i64 (j : Int)] 115)).cell? ⟨g, 2, none⟩ = some (.slice As j cs1) := by rw [← hVs]; exact (ma.ob 7 rfl).cell 2 rfl
              have k2 : (v8.alloc (.cells #[sE s, .int .i64 (j : Int)] 115)).cell? ⟨bd, od + j * 2, none⟩ = some (sE s) := hdir _ _ ma (.inr rfl)
              have happ := MA.out.app 9 rfl
              rw [hVs] at happ
              have HAPP := Lib.hid happ
              have RN := Lib.hid (show Rd (v8.alloc (.cells #[sE s, .int .i64 (j : Int)] 115)).drew (some ⟨v8.heap.size, 0, none⟩) [sE s, .int .i64 (j : Int)] from by
                have h := rd_of_block (heap_alloc_new v8 (.cells #[sE s, .int .i64 (j : Int)] 115)) 0 2
                exact Rd.bl (by simpa using h) (Bl.refl _).drew)
              clear hdir happ hVs ma
              have HFIN := Lib.hid (show ∀ (A9 : Option Addr) (c9 : Nat) (v : World), Mem w0 (rfL p R S ++ pool G3 :: blk gt 109 #[.slice A l.length c, nE jt3] :: blk g 105 #[nE S.room, .slice A7 (j + 1) c7, .slice A9 (j + 1) c9, .slice none 0 0, .slice none 0 0, nE 0, nE 0, .bool false] :: row 113 2 (.slice A7 (j + 1) c7) (j + 1) (fs.flatMap rfV ++ [.slice A5 r1.length c5, .slice none 0 0]) :: row 115 2 (.slice A9 (j + 1) c9) (j + 1) ((numbered ((D.take j).map (·.1))).flatMap entV ++ [sE s, .int .i64 (j : Int)]) :: cs) v → FailI w0 cs p gt g R S G l l1 A c D (j + 1) v from fun A9 c9 v m' => by
                obtain ⟨hGG, hjt1, hdr, hfs, hq⟩ := HX.out
                obtain ⟨hG13, hjt3, hdr3, hG5, hc5, _⟩ := H6.out
                have htk : D.take (j + 1) = D.take j ++ [(s, n)] := by rw [List.take_add_one, HN.out.1]; rfl
                have hlenj : (D.take j).length = j := by rw [List.length_take]; omega
                obtain ⟨q', hq'⟩ : ∃ q' : RfF, q' = ⟨⟨r1, r1, []⟩, A5, c5, .slice none 0 0, []⟩ := ⟨_, rfl⟩
                refine ⟨G3, jt3, fs ++ [q'], .slice A7 (j + 1) c7, .slice A9 (j + 1) c9, fun A l h => hG13 _ _ (hGG _ _ h), hjt3, ?_, ?_, ?_, ?_⟩
                · rw [htk, leftCuts_snoc, ← hdr, hdr3, ← HN.out.2.1, HR1.out.2]
                · rw [htk, leftAll_snoc, List.map_append, List.map_append, hfs, hq', ← hdr, ← HN.out.2.1, HR1.out.1]
                  rfl
                · intro y hy
                  rcases List.mem_append.1 hy with hy | hy
                  · have h1 := hq y hy
                    exact ⟨⟨hG13 _ _ h1.1.sure, h1.1.c, h1.1.row, fun e he => ⟨hG13 _ _ (h1.1.ch e he).1, (h1.1.ch e he).2⟩⟩, h1.2⟩
                  · simp at hy
                    subst hy
                    rw [hq']
                    exact ⟨⟨hG5, hc5, rfl, fun e he => by cases he⟩, rfl, rfl⟩
                · have e1 : (fs ++ [q']).flatMap rfV = fs.flatMap rfV ++ [.slice A5 r1.length c5, .slice none 0 0] := by rw [List.flatMap_append, hq']; rfl
                  have e2 : (numbered ((D.take (j + 1)).map (·.1))).flatMap entV = (numbered ((D.take j).map (·.1))).flatMap entV ++ [sE s, .int .i64 (j : Int)] := by
                    rw [htk, List.map_append, List.map_cons, List.map_nil, numbered_snoc, List.flatMap_append, List.length_map, hlenj]
                    rfl
                  rw [e1, e2]
                  exact m')
              go_region_law (refine step_row rfl _ _ 102 115 (.agg #[.string .empty, .int .i64 0]) 2 24 (by rfl) Try.underlying102 Try.infoEntry rfl (by decide) 0 HAPP.out (by rfl) (by rfl) RN.out (by simp) (by intro u hu; simp at hu; rcases hu with rfl | rfl <;> rfl) (by omega) (by omega) (Nat.zero_le _) ?_; intro v9 w9 hown9 hgr9 hat9; obtain ⟨A9, c9, rfl, hcc9⟩ := hown9.slice; rw [← HVS.out] at hgr9 hat9; have M9 := (MA.out.grow 9 rfl hown9 hgr9 hat9).drop; have n2 : w9.cell? ⟨g, 2, none⟩ = some Vs := (M9.ob 6 rfl).cell 2 rfl; have nf2 : w9.frozen? ⟨g, 2, none⟩ = false := (M9.ob 6 rfl).free 2; have M10 := M9.put 6 rfl 2 (.slice A9 (j + 1) c9); have k9 := HDIR.out _ _ M9 (.inl rfl))
              all_goals
                go_wp2_with fail
                go_roundw
                case rel => exact ⟨j + 1, rfl, by omega, Lib.hid (HFIN.out _ _ _ M10)⟩
                case measure => simp [intOf]; omega
end
end Go.Proofs.Ythphonkiolmkiaa
/- Layer 14, the laws: a deed done, of the reference. -/
set_option linter.unusedVariables false
set_option linter.unusedSimpArgs false
namespace Go.Proofs.Ythphonkiolmkiaa
open Go.RowKit
set_option maxRecDepth 100000
set_option maxHeartbeats 8000000

theorem did_calls {q : Nat} {S : Fs} {G : Facts} (o : OpA) {w0 w : World} {cs : List Chunk} (h : Mem w0 (rfC q S G :: pool G :: cs) w) (h1 : o.name.size ≤ 140737488351232) (h2 : o.to_.size ≤ 140737488351232) (h3 : o.off ≤ 9223372036854775807) (h4 : o.b.length ≤ 140737488351232) (h5 : o.b.length ≤ o.c) (hA : ∀ v, Mem w0 cs v → Rd v o.A (o.b.map bv)) (ha : S.acts < 1000000000) :
    Calls Try.prog 40 #[pE q, opV o] w (RfRet w0 q (fsDo S o).1 G cs (nE (fsDo S o).2)) := by
  obtain ⟨call, name, to_, off, A, b, c⟩ := o
  simp only at h1 h2 h3 h4 h5 hA
  have HM := Lib.hid ((h.alloc (.cells #[.int .u8 (call : Int), sE name, sE to_, .int .i64 off, .slice A b.length c] 53)).away 2)
  have HA := Lib.hid (fun (v : World) (m : Mem w0 (blk w.heap.size 53 #[.int .u8 (call : Int), sE name, sE to_, .int .i64 off, .slice A b.length c] :: cs) v) => hA v m.drop)
  have HB := Lib.hid (And.intro h1 (And.intro h2 (And.intro h3 (And.intro h4 (And.intro h5 ha)))))
  clear h hA h1 h2 h3 h4 h5 ha
  obtain ⟨r, hr⟩ : ∃ r, r = fsDo S ⟨call, name, to_, off, A, b, c⟩ := ⟨_, rfl⟩
  rw [← hr]
  have HR := Lib.hid hr
  clear hr
  have hc : call = 0 ∨ call = 1 ∨ call = 2 ∨ call = 3 ∨ call = 4 ∨ call = 5 ∨ call = 6 ∨ call = 7 ∨ call = 8 ∨ 9 ≤ call := by omega
  simp only [opV]
  go_enter Try.func40, Try.ntmps40
  go_upto_region 1 with (fail)
  generalize w.alloc (.cells #[.int .u8 (call : Int), sE name, sE to_, .int .i64 off, .slice A b.length c] 53) = v at HM ⊢
  generalize w.heap.size = g at HM HA ⊢
  have k0 : v.cell? ⟨g, 0, none⟩ = some (.int .u8 (call : Int)) := (HM.out.ob 2 rfl).cell 0 rfl
  have k1 : v.cell? ⟨g, 1, none⟩ = some (sE name) := (HM.out.ob 2 rfl).cell 1 rfl
  have k2 : v.cell? ⟨g, 2, none⟩ = some (sE to_) := (HM.out.ob 2 rfl).cell 2 rfl
  have k3 : v.cell? ⟨g, 3, none⟩ = some (.int .i64 off) := (HM.out.ob 2 rfl).cell 3 rfl
  have k4 : v.cell? ⟨g, 4, none⟩ = some (.slice A b.length c) := (HM.out.ob 2 rfl).cell 4 rfl
  rcases hc with rfl | rfl | rfl | rfl | rfl | rfl | rfl | rfl | rfl | hc
  · have E := Lib.hid (show r = fsCreate S name from HR.out)
    go_wp2_with fail
    refine (ref_Create name HM.out HB.out.2.2.2.2.2 (by have := HB.out.1; omega)).mono ?_
    rintro en w2 ⟨rfl, G2, hG2, m⟩
    have HM2 := Lib.hid (And.intro hG2 ((m.bring 2).drop))
    clear m hG2 HM HA k0 k1 k2 k3 k4
    go_wp2_with fail
    go_ret
    rw [E.out]
    exact ⟨rfl, G2, HM2.out.1, HM2.out.2⟩
  · have E := Lib.hid (show r = fsAppend S name b from HR.out)
    go_wp2_with fail
    refine (ref_Append name b A c HM.out HA.out (by have := HB.out.2.2.2.1; omega) HB.out.2.2.2.2.1 HB.out.2.2.2.2.2).mono ?_
    rintro en w2 ⟨rfl, G2, hG2, m⟩
    have HM2 := Lib.hid (And.intro hG2 ((m.bring 2).drop))
    clear m hG2 HM HA k0 k1 k2 k3 k4
    go_wp2_with fail
    go_ret
    rw [E.out]
    exact ⟨rfl, G2, HM2.out.1, HM2.out.2⟩
  · have E := Lib.hid (show r = fsWrite S name off b from HR.out)
    go_wp2_with fail
    refine (ref_Write name off b A c HM.out HA.out HB.out.2.2.2.1 HB.out.2.2.2.2.1 HB.out.2.2.2.2.2).mono ?_
    rintro en w2 ⟨rfl, G2, hG2, m⟩
    have HM2 := Lib.hid (And.intro hG2 ((m.bring 2).drop))
    clear m hG2 HM HA k0 k1 k2 k3 k4
    go_wp2_with fail
    go_ret
    rw [E.out]
    exact ⟨rfl, G2, HM2.out.1, HM2.out.2⟩
  · have E := Lib.hid (show r = fsCut S name off from HR.out)
    go_wp2_with fail
    refine (ref_Cut name off HM.out HB.out.2.2.2.2.2).mono ?_
    rintro en w2 ⟨rfl, G2, hG2, m⟩
    have HM2 := Lib.hid (And.intro hG2 ((m.bring 2).drop))
    clear m hG2 HM HA k0 k1 k2 k3 k4
    go_wp2_with fail
    go_ret
    rw [E.out]
    exact ⟨rfl, G2, HM2.out.1, HM2.out.2⟩
  · have E := Lib.hid (show r = fsRename S name to_ from HR.out)
    go_wp2_with fail
    refine (ref_Rename name to_ HM.out HB.out.2.2.2.2.2 (by have := HB.out.2.1; omega)).mono ?_
    rintro en w2 ⟨rfl, G2, hG2, m⟩
    have HM2 := Lib.hid (And.intro hG2 ((m.bring 2).drop))
    clear m hG2 HM HA k0 k1 k2 k3 k4
    go_wp2_with fail
    go_ret
    rw [E.out]
    exact ⟨rfl, G2, HM2.out.1, HM2.out.2⟩
  · have E := Lib.hid (show r = fsRemove S name from HR.out)
    go_wp2_with fail
    refine (ref_Remove name HM.out HB.out.2.2.2.2.2).mono ?_
    rintro en w2 ⟨rfl, G2, hG2, m⟩
    have HM2 := Lib.hid (And.intro hG2 ((m.bring 2).drop))
    clear m hG2 HM HA k0 k1 k2 k3 k4
    go_wp2_with fail
    go_ret
    rw [E.out]
    exact ⟨rfl, G2, HM2.out.1, HM2.out.2⟩
  · have E := Lib.hid (show r = fsSync S name from HR.out)
    go_wp2_with fail
    refine (ref_Sync name HM.out HB.out.2.2.2.2.2).mono ?_
    rintro en w2 ⟨rfl, G2, hG2, m⟩
    have HM2 := Lib.hid (And.intro hG2 ((m.bring 2).drop))
    clear m hG2 HM HA k0 k1 k2 k3 k4
    go_wp2_with fail
    go_ret
    rw [E.out]
    exact ⟨rfl, G2, HM2.out.1, HM2.out.2⟩
  · have E := Lib.hid (show r = fsSyncDir S from HR.out)
    go_wp2_with fail
    refine (ref_SyncDir HM.out HB.out.2.2.2.2.2).mono ?_
    rintro en w2 ⟨rfl, G2, hG2, m⟩
    have HM2 := Lib.hid (And.intro hG2 ((m.bring 2).drop))
    clear m hG2 HM HA k0 k1 k2 k3 k4
    go_wp2_with fail
    go_ret
    rw [E.out]
    exact ⟨rfl, G2, HM2.out.1, HM2.out.2⟩
  · have E := Lib.hid (show r = fsArm S off from HR.out)
    go_wp2_with fail
    refine (ref_Arm off HM.out (by have := HB.out.2.2.1; omega)).mono ?_
    rintro en w2 ⟨rfl, G2, hG2, m⟩
    have HM2 := Lib.hid (And.intro hG2 ((m.bring 2).drop))
    clear m hG2 HM HA k0 k1 k2 k3 k4
    go_wp2_with fail
    go_ret
    rw [E.out]
    exact ⟨rfl, G2, HM2.out.1, HM2.out.2⟩
  · have E := Lib.hid (show r = (S, 0) by rw [HR.out]; unfold fsDo; simp only; rw [if_neg (by omega)]; rw [if_neg (by omega)]; rw [if_neg (by omega)]; rw [if_neg (by omega)]; rw [if_neg (by omega)]; rw [if_neg (by omega)]; rw [if_neg (by omega)]; rw [if_neg (by omega)]; rw [if_neg (by omega)])
    have n0 : ((call : Int) == 0) = false := by simp; omega
    have n1 : ((call : Int) == 1) = false := by simp; omega
    have n2 : ((call : Int) == 2) = false := by simp; omega
    have n3 : ((call : Int) == 3) = false := by simp; omega
    have n4 : ((call : Int) == 4) = false := by simp; omega
    have n5 : ((call : Int) == 5) = false := by simp; omega
    have n6 : ((call : Int) == 6) = false := by simp; omega
    have n7 : ((call : Int) == 7) = false := by simp; omega
    have n8 : ((call : Int) == 8) = false := by simp; omega
    clear hc
    go_wp2_with fail
    go_ret
    rw [E.out]
    exact ⟨rfl, G, fun _ _ h => h, (HM.out.bring 2).drop⟩
end Go.Proofs.Ythphonkiolmkiaa
/- Layer 14 in plain Lean: what is used; what stays while nothing is done to it. No program in sight. -/
set_option linter.unusedVariables false
set_option linter.unusedSimpArgs false
namespace Go.Proofs.Ythphonkiolmkiaa
open Go.RowKit

/-! ### directories, files -/
theorem mGet_dPut {D : Dir} (h : DirOk D) (k s : ByteArray) (n : Nat) : mGet (dPut D k n) s = if k = s then some n else mGet D s := by
  have hd := (h.dPut k n).nd
  by_cases e : k = s
  · subst e
    rw [if_pos rfl]
    exact (mGet_some hd).2 ((mem_dPut h).2 (.inl rfl))
  · rw [if_neg e]
    cases hm : mGet D s with
    | none =>
      rw [mGet_eq_none] at hm ⊢
      intro p hp
      rcases (mem_dPut h).1 hp with rfl | ⟨hp, _⟩
      · exact e
      · exact hm p hp
    | some v =>
      rw [mGet_some h.nd] at hm
      exact (mGet_some hd).2 ((mem_dPut h).2 (.inr ⟨hm, fun e2 => e e2.symm⟩))
theorem mGet_mDel {D : Dir} (h : DirOk D) (k s : ByteArray) : mGet (mDel D k) s = if k = s then none else mGet D s := by
  have hd := (h.del k).nd
  by_cases e : k = s
  · subst e
    rw [if_pos rfl, mGet_eq_none]
    intro p hp
    exact (mem_mDel.1 hp).2
  · rw [if_neg e]
    cases hm : mGet D s with
    | none =>
      rw [mGet_eq_none] at hm ⊢
      intro p hp
      exact hm p (mem_mDel.1 hp).1
    | some v =>
      rw [mGet_some h.nd] at hm
      exact (mGet_some hd).2 (mem_mDel.2 ⟨hm, fun e2 => e e2.symm⟩)
def NumNd (D : Dir) : Prop := D.Pairwise (fun p q => p.2 ≠ q.2)
theorem mem_dPut_or {D : Dir} {k : ByteArray} {n : Nat} {p : ByteArray × Nat} (h : p ∈ dPut D k n) : p = (k, n) ∨ p ∈ D := by
  induction D with
  | nil => simpa [dPut] using h
  | cons q D ih =>
    unfold dPut at h
    by_cases h1 : q.1 = k
    · rw [if_pos h1] at h
      rcases List.mem_cons.1 h with rfl | h
      · exact .inl rfl
      · exact .inr (List.mem_cons_of_mem _ h)
    · rw [if_neg h1] at h
      by_cases h2 : sLt k q.1 = true
      · rw [if_pos h2] at h
        rcases List.mem_cons.1 h with rfl | h
        · exact .inl rfl
        · exact .inr h
      · rw [if_neg h2] at h
        rcases List.mem_cons.1 h with rfl | h
        · exact .inr (by simp)
        · exact (ih h).imp id (List.mem_cons_of_mem _)
theorem NumNd.put {D : Dir} (h : NumNd D) {k : ByteArray} {n : Nat} (hn : ∀ p ∈ D, p.2 ≠ n) : NumNd (dPut D k n) := by
  induction D with
  | nil => simp [dPut, NumNd]
  | cons q D ih =>
    have h1 := (List.pairwise_cons.1 h).1
    have h2 : NumNd D := (List.pairwise_cons.1 h).2
    have hn2 : ∀ p ∈ D, p.2 ≠ n := fun p hp => hn p (List.mem_cons_of_mem _ hp)
    unfold dPut
    by_cases e1 : q.1 = k
    · rw [if_pos e1]; exact List.pairwise_cons.2 ⟨fun p hp => (hn2 p hp).symm, h2⟩
    · rw [if_neg e1]
      by_cases e2 : sLt k q.1 = true
      · rw [if_pos e2]; exact List.pairwise_cons.2 ⟨fun p hp => (hn p hp).symm, h⟩
      · rw [if_neg e2]
        refine List.pairwise_cons.2 ⟨fun p hp => ?_, ih h2 hn2⟩
        rcases mem_dPut_or hp with rfl | hp
        · exact hn q (by simp)
        · exact h1 p hp
theorem NumNd.del {D : Dir} (h : NumNd D) (k : ByteArray) : NumNd (mDel D k) := h.sublist List.filter_sublist
theorem NumNd.one {D : Dir} (h : NumNd D) {p q : ByteArray × Nat} (hp : p ∈ D) (hq : q ∈ D) (e : p.2 = q.2) : p = q := by
  obtain ⟨i, hi⟩ := List.getElem?_of_mem hp
  obtain ⟨j, hj⟩ := List.getElem?_of_mem hq
  unfold NumNd at h
  rw [List.pairwise_iff_getElem] at h
  have hil := (List.getElem?_eq_some_iff.1 hi)
  have hjl := (List.getElem?_eq_some_iff.1 hj)
  rcases Nat.lt_trichotomy i j with hlt | rfl | hlt
  · have := h i j hil.1 hjl.1 hlt; rw [hil.2, hjl.2] at this; exact absurd e this
  · rw [hi] at hj; exact Option.some.inj hj
  · have := h j i hjl.1 hil.1 hlt; rw [hil.2, hjl.2] at this; exact absurd e.symm this
theorem NumNd.free {D : Dir} (h : NumNd D) (hd : DirOk D) {k : ByteArray} {n : Nat} (hk : mGet D k = some n) : ∀ p ∈ mDel D k, p.2 ≠ n := by
  intro p hp e
  obtain ⟨h1, h2⟩ := mem_mDel.1 hp
  have := h.one h1 ((mGet_some hd.nd).1 hk) e
  rw [this] at h2
  exact h2 rfl
theorem flAt_modify (fl : List Fl) (i n : Nat) (f : Fl → Fl) (hn : n - 1 < fl.length) : flAt (fl.modify i f) n = if i = n - 1 then f (flAt fl n) else flAt fl n := by
  unfold flAt
  rw [List.getElem?_modify, List.getElem?_eq_getElem hn]
  by_cases e : i = n - 1
  · rw [if_pos e]; simp [e]
  · rw [if_neg e]; simp [e]
theorem flAt_snoc (fl : List Fl) (x : Fl) (n : Nat) (hn : n - 1 < fl.length) : flAt (fl ++ [x]) n = flAt fl n := by
  unfold flAt
  rw [List.getElem?_append_left hn]
theorem usedOf_congr {fl fl' : List Fl} {D : Dir} (h : ∀ p ∈ D, (flAt fl p.2).now.length = (flAt fl' p.2).now.length) : usedOf fl D = usedOf fl' D := by
  unfold usedOf
  congr 1
  exact List.map_congr_left h
theorem usedOf_put_le (fl : List Fl) (D : Dir) (k : ByteArray) (n : Nat) : usedOf fl (dPut D k n) ≤ usedOf fl D + (flAt fl n).now.length := by
  induction D with
  | nil => simp [dPut, usedOf]
  | cons q D ih =>
    unfold dPut
    by_cases e1 : q.1 = k
    · rw [if_pos e1]; unfold usedOf; simp only [List.map_cons, List.sum_cons]; omega
    · rw [if_neg e1]
      by_cases e2 : sLt k q.1 = true
      · rw [if_pos e2]; unfold usedOf; simp only [List.map_cons, List.sum_cons]; omega
      · rw [if_neg e2]; unfold usedOf at *; simp only [List.map_cons, List.sum_cons]; omega
theorem usedOf_del {fl : List Fl} {D : Dir} (h : DirOk D) {k : ByteArray} {n : Nat} (hk : mGet D k = some n) : usedOf fl (mDel D k) + (flAt fl n).now.length = usedOf fl D := by
  obtain ⟨j, hj⟩ := List.getElem?_of_mem ((mGet_some h.nd).1 hk)
  rw [mDel_at h.nd hj, usedOf_erase fl hj]
theorem usedOf_change {fl : List Fl} {D : Dir} (hd : DirIn fl.length D) (hu : NumNd D) {k : ByteArray} {n : Nat} (hk : mGet D k = some n) (f : Fl → Fl) :
    usedOf (fl.modify (n - 1) f) D + (flAt fl n).now.length = usedOf fl D + (f (flAt fl n)).now.length := by
  have hm := (mGet_some hd.ok.nd).1 hk
  have hp := hd.pos _ hm
  simp only at hp
  obtain ⟨j, hj⟩ := List.getElem?_of_mem hm
  rw [usedOf_erase fl hj, usedOf_erase (fl.modify (n - 1) f) hj]
  simp only
  rw [flAt_modify fl (n - 1) n f (by omega), if_pos rfl]
  have e : usedOf (fl.modify (n - 1) f) (D.eraseIdx j) = usedOf fl (D.eraseIdx j) := by
    refine usedOf_congr (fun p hp2 => ?_)
    have h1 := List.mem_of_mem_eraseIdx hp2
    have h2 := hd.pos _ h1
    have h3 : p.2 ≠ n := by
      intro e
      have := mDel_at hd.ok.nd hj
      rw [← this] at hp2
      exact hu.free hd.ok hk p hp2 e
    rw [flAt_modify fl (n - 1) p.2 f (by omega), if_neg (by omega)]
  omega

/-! ### the numbers of the directory are different -/
theorem uniq_step {S : Fs} (ho : FsOk S) (hu : NumNd S.seen) (o : OpA) : NumNd (fsDo S o).1.seen := by
  unfold fsDo fsCreate fsAppend fsWrite fsCut fsRename fsRemove fsSync fsSyncDir fsArm
  repeat' (refine ite_ind (P := fun r : Fs × Nat => NumNd r.1.seen) (fun _ => ?_) (fun _ => ?_))
  all_goals first
    | exact hu
    | skip
  · show NumNd (dirDo S.seen ⟨0, .empty, o.name, S.fl.length + 1⟩)
    unfold dirDo
    rw [if_pos rfl]
    exact hu.put (fun p hp => by have := (ho.seen.pos p hp).2; simp only; omega)
  · rename_i h _
    obtain ⟨_, n, hn, _⟩ := getE_zero (by simpa using h)
    show NumNd (dirDo S.seen ⟨1, o.name, o.to_, 0⟩)
    unfold dirDo
    rw [if_neg (by simp), if_pos rfl, hn]
    exact (hu.del _).put (fun p hp => hu.free ho.seen.ok hn p hp)
  · show NumNd (dirDo S.seen ⟨2, o.name, .empty, 0⟩)
    unfold dirDo
    rw [if_neg (by simp), if_neg (by simp), if_pos rfl]
    exact hu.del _
end Go.Proofs.Ythphonkiolmkiaa
/- Layer 14 in plain Lean: no more is used than there is room for. No program in sight. -/
set_option linter.unusedVariables false
set_option linter.unusedSimpArgs false
namespace Go.Proofs.Ythphonkiolmkiaa
open Go.RowKit

structure RoomI (S : Fs) (room : Nat) : Prop where
  same : S.room = room
  live : S.dead = false
  fuse : S.fuse = 0
  uniq : NumNd S.seen
  used : S.used ≤ room
def RoomP (S : Fs) (room : Nat) (r : Fs × Nat) : Prop := RoomI r.1 room ∧ ((r.2 ≠ 0 ∧ r.1 = S) ∨ (r.2 = 0 ∧ r.1.acts = S.acts + 1))
theorem fails_live {X : Fs} (h1 : X.dead = false) (h2 : X.fuse = 0) : (fails X).dead = false := by
  unfold fails
  simp [h1, h2]
theorem RoomP.stay {S : Fs} {room e : Nat} (h : RoomI S room) (he : e ≠ 0) : RoomP S room (S, e) := ⟨h, .inl ⟨he, rfl⟩⟩
theorem RoomP.done {S X : Fs} {room : Nat} (h0 : X.acts = S.acts) (h1 : X.room = room) (h2 : X.dead = false) (h3 : X.fuse = 0) (h4 : NumNd X.seen) (h5 : X.used ≤ room) : RoomP S room (endE (fails X)) := by
  have hl := fails_live h2 h3
  refine ⟨⟨h1, hl, ?_, h4, h5⟩, .inr ⟨?_, ?_⟩⟩
  · show X.fuse - 1 = 0
    omega
  · unfold endE; simp [hl]
  · show X.acts + 1 = S.acts + 1
    rw [h0]
theorem chDo_length (s : List UInt8) (c : Chg) (h : c.off ≤ s.length) : (chDo s c).length = if c.cut then c.off else max s.length (c.off + c.b.length) := by
  unfold chDo
  split
  · rw [List.length_take]; omega
  · simp only [List.length_append, List.length_take, List.length_drop]; omega
theorem change_used {S : Fs} (ho : FsOk S) (hu : NumNd S.seen) {s : ByteArray} {n : Nat} (hn : mGet S.seen s = some n) (c : Chg) : (change S (n - 1) c).used + (flAt S.fl n).now.length = S.used + (chDo (flAt S.fl n).now c).length :=
  usedOf_change ho.seen hu hn (fun x => { x with now := chDo x.now c, row := x.row ++ [c] })
theorem room_step {S : Fs} {room : Nat} (ho : FsOk S) (h : RoomI S room) (o : OpA) (hc : o.call < 8) : RoomP S room (fsDo S o) := by
  have hgo : ∀ s, ¬ (getE S s ≠ 0) → ∃ n, mGet S.seen s = some n ∧ getN S s = n := fun s hs => (getE_zero (by simpa using hs)).2
  have ha := h.same
  have hused := h.used
  unfold fsDo
  refine ite_ind (fun _ => ?_) (fun c0 => ite_ind (fun _ => ?_) (fun c1 => ite_ind (fun _ => ?_) (fun c2 => ite_ind (fun _ => ?_) (fun c3 => ite_ind (fun _ => ?_) (fun c4 => ite_ind (fun _ => ?_) (fun c5 => ite_ind (fun _ => ?_) (fun c6 => ite_ind (fun _ => ?_) (fun c7 => ?_))))))))
  · unfold fsCreate
    refine ite_ind (fun _ => .stay h (by simp)) (fun _ => ite_ind (fun _ => .stay h (by simp)) (fun _ => ite_ind (fun _ => .stay h (by simp)) (fun hs => ite_ind (fun _ => .stay h (by simp)) (fun _ => ?_))))
    refine .done rfl h.same h.live h.fuse ?_ ?_
    · show NumNd (dirDo S.seen ⟨0, .empty, o.name, S.fl.length + 1⟩)
      unfold dirDo
      rw [if_pos rfl]
      exact h.uniq.put (fun p hp => by have := (ho.seen.pos p hp).2; simp only; omega)
    · show usedOf (S.fl ++ [⟨[], [], []⟩]) (dirDo S.seen ⟨0, .empty, o.name, S.fl.length + 1⟩) ≤ room
      unfold dirDo
      rw [if_pos rfl]
      have h1 := usedOf_put_le (S.fl ++ [⟨[], [], []⟩]) S.seen o.name (S.fl.length + 1)
      have h2 : (flAt (S.fl ++ [⟨[], [], []⟩]) (S.fl.length + 1)).now.length = 0 := by unfold flAt; simp
      have h3 : usedOf (S.fl ++ [⟨[], [], []⟩]) S.seen = usedOf S.fl S.seen := usedOf_congr (fun p hp => by have := ho.seen.pos p hp; rw [flAt_snoc _ _ _ (by omega)])
      have h4 : S.used = usedOf S.fl S.seen := rfl
      simp only
      omega
  · unfold fsAppend
    refine ite_ind (fun hg => .stay h hg) (fun hg => ite_ind (fun _ => .stay h (by simp)) (fun hf => ?_))
    obtain ⟨n, hn, hN⟩ := hgo _ hg
    rw [hN]
    have hcu := change_used ho h.uniq hn ⟨false, (flAt S.fl n).now.length, o.b⟩
    rw [chDo_length _ _ (Nat.le_refl _)] at hcu
    simp only [Bool.false_eq_true, if_false] at hcu
    refine .done rfl h.same h.live h.fuse h.uniq ?_
    omega
  · unfold fsWrite
    refine ite_ind (fun hg => .stay h hg) (fun hg => ite_ind (fun _ => .stay h (by simp)) (fun hb => ite_ind (fun _ => .stay h (by simp)) (fun hf => ?_)))
    obtain ⟨n, hn, hN⟩ := hgo _ hg
    rw [hN] at hb hf ⊢
    have hcu := change_used ho h.uniq hn ⟨false, o.off.toNat, o.b⟩
    rw [chDo_length _ _ (by show o.off.toNat ≤ _; omega)] at hcu
    simp only [Bool.false_eq_true, if_false] at hcu
    refine .done rfl h.same h.live h.fuse h.uniq ?_
    omega
  · unfold fsCut
    refine ite_ind (fun hg => .stay h hg) (fun hg => ite_ind (fun _ => .stay h (by simp)) (fun hb => ?_))
    obtain ⟨n, hn, hN⟩ := hgo _ hg
    rw [hN] at hb ⊢
    have hcu := change_used ho h.uniq hn ⟨true, o.off.toNat, []⟩
    rw [chDo_length _ _ (by show o.off.toNat ≤ _; omega)] at hcu
    simp only [if_true] at hcu
    refine .done rfl h.same h.live h.fuse h.uniq ?_
    omega
  · unfold fsRename
    refine ite_ind (fun hg => .stay h hg) (fun hg => ite_ind (fun _ => .stay h (by simp)) (fun _ => ?_))
    obtain ⟨n, hn, hN⟩ := hgo _ hg
    have hd : dirDo S.seen ⟨1, o.name, o.to_, 0⟩ = dPut (mDel S.seen o.name) o.to_ n := by
      unfold dirDo
      rw [if_neg (by simp), if_pos rfl, hn]; rfl
    refine .done rfl h.same h.live h.fuse ?_ ?_
    · show NumNd (dirDo S.seen ⟨1, o.name, o.to_, 0⟩)
      rw [hd]
      exact (h.uniq.del _).put (fun p hp => h.uniq.free ho.seen.ok hn p hp)
    · show usedOf S.fl (dirDo S.seen ⟨1, o.name, o.to_, 0⟩) ≤ room
      rw [hd]
      have h1 := usedOf_put_le S.fl (mDel S.seen o.name) o.to_ n
      have h2 := usedOf_del (fl := S.fl) ho.seen.ok hn
      have h4 : S.used = usedOf S.fl S.seen := rfl
      omega
  · unfold fsRemove
    refine ite_ind (fun hg => .stay h hg) (fun hg => ?_)
    obtain ⟨n, hn, hN⟩ := hgo _ hg
    have hd : dirDo S.seen ⟨2, o.name, .empty, 0⟩ = mDel S.seen o.name := by
      unfold dirDo
      rw [if_neg (by simp), if_neg (by simp), if_pos rfl]
    refine .done rfl h.same h.live h.fuse ?_ ?_
    · show NumNd (dirDo S.seen ⟨2, o.name, .empty, 0⟩)
      rw [hd]; exact h.uniq.del _
    · show usedOf S.fl (dirDo S.seen ⟨2, o.name, .empty, 0⟩) ≤ room
      rw [hd]
      have h2 := usedOf_del (fl := S.fl) ho.seen.ok hn
      have h4 : S.used = usedOf S.fl S.seen := rfl
      omega
  · unfold fsSync
    refine ite_ind (fun hg => .stay h hg) (fun hg => ite_ind (fun hd => ?_) (fun _ => ?_))
    · rw [fails_live h.live h.fuse] at hd; cases hd
    · obtain ⟨n, hn, hN⟩ := hgo _ hg
      rw [hN]
      have hcu := usedOf_change ho.seen h.uniq hn (fun x => { x with sure := x.now, row := [] })
      simp only at hcu
      refine ⟨⟨h.same, fails_live h.live h.fuse, by show S.fuse - 1 = 0; have := h.fuse; omega, h.uniq, ?_⟩, .inr ⟨rfl, rfl⟩⟩
      show usedOf (S.fl.modify (n - 1) (fun x => { x with sure := x.now, row := [] })) S.seen ≤ room
      have h4 : S.used = usedOf S.fl S.seen := rfl
      omega
  · unfold fsSyncDir
    refine ite_ind (fun hd => ?_) (fun _ => ite_ind (fun hd => ?_) (fun _ => ?_))
    · rw [h.live] at hd; cases hd
    · rw [fails_live h.live h.fuse] at hd; cases hd
    · exact ⟨⟨h.same, fails_live h.live h.fuse, by show S.fuse - 1 = 0; have := h.fuse; omega, h.uniq, hused⟩, .inr ⟨rfl, rfl⟩⟩
  · omega
end Go.Proofs.Ythphonkiolmkiaa
/- Layer 14 in plain Lean: what is sure stays. No program in sight. -/
set_option linter.unusedVariables false
set_option linter.unusedSimpArgs false
namespace Go.Proofs.Ythphonkiolmkiaa
open Go.RowKit

theorem mGet_dirDo {D : Dir} (h : DirOk D) {m : Mv} {s : ByteArray} (h1 : m.src ≠ s) (h2 : m.dst ≠ s) : mGet (dirDo D m) s = mGet D s := by
  unfold dirDo
  refine ite_ind (P := fun E : Dir => mGet E s = mGet D s) (fun _ => ?_) (fun _ => ite_ind (P := fun E : Dir => mGet E s = mGet D s) (fun _ => ?_) (fun _ => ite_ind (P := fun E : Dir => mGet E s = mGet D s) (fun _ => ?_) (fun _ => rfl)))
  · rw [mGet_dPut h, if_neg h2]
  · rw [mGet_dPut (h.del _), if_neg h2, mGet_mDel h, if_neg h1]
  · rw [mGet_mDel h, if_neg h1]
theorem mGet_fold {N : Nat} {s : ByteArray} : ∀ {r : List Mv} {D E : Dir}, DirIn N D → movesOk N D r E → (∀ m ∈ r, m.src ≠ s ∧ m.dst ≠ s) → mGet (r.foldl dirDo D) s = mGet D s
  | [], _, _, _, _, _ => rfl
  | m :: r, D, E, hd, hm, hr => by
    rw [List.foldl_cons, mGet_fold (dirDo_in hd hm.1) hm.2 (fun x hx => hr x (List.mem_cons_of_mem _ hx))]
    exact mGet_dirDo hd.ok (hr m (by simp)).1 (hr m (by simp)).2
/-- The file of the name s is the first one, and sure; nothing that is not sure is done to the name. -/
structure SureI (S : Fs) (s : ByteArray) (b : List UInt8) : Prop where
  sure : mGet S.sure s = some 1
  seen : mGet S.seen s = some 1
  file : S.fl[0]? = some ⟨b, b, []⟩
  row : ∀ m ∈ S.row, m.src ≠ s ∧ m.dst ≠ s
theorem sure_step {S : Fs} {s : ByteArray} {b : List UInt8} (ho : FsOk S) (hu : NumNd S.seen) (h : SureI S s b) (o : OpA) (h1 : o.name ≠ s) (h2 : o.to_ ≠ s) (hs : ByteArray.empty ≠ s) : SureI (fsDo S o).1 s b := by
  have hm1 := (mGet_some ho.seen.ok.nd).1 h.seen
  have hoth : ∀ t, t ≠ s → ¬ (getE S t ≠ 0) → ∃ n, mGet S.seen t = some n ∧ getN S t = n ∧ n ≠ 1 ∧ 1 ≤ n := by
    intro t ht hg
    obtain ⟨_, n, hn, hN⟩ := getE_zero (by simpa using hg)
    have hm := (mGet_some ho.seen.ok.nd).1 hn
    refine ⟨n, hn, hN, fun e => ?_, (ho.seen.pos _ hm).1⟩
    subst e
    have := hu.one hm hm1 rfl
    exact ht (by simpa using congrArg Prod.fst this)
  have hmod : ∀ (n : Nat) (f : Fl → Fl), n ≠ 1 → 1 ≤ n → (S.fl.modify (n - 1) f)[0]? = some ⟨b, b, []⟩ := by
    intro n f hn h1
    rw [List.getElem?_modify, h.file]
    have : ¬ (n - 1 = 0) := by omega
    simp [this]
  have hrow : ∀ m : Mv, m.src ≠ s → m.dst ≠ s → ∀ x ∈ S.row ++ [m], x.src ≠ s ∧ x.dst ≠ s := by
    intro m e1 e2 x hx
    rcases List.mem_append.1 hx with hx | hx
    · exact h.row x hx
    · simp at hx; subst hx; exact ⟨e1, e2⟩
  unfold fsDo
  refine ite_ind (P := fun r : Fs × Nat => SureI r.1 s b) (fun _ => ?_) (fun _ => ite_ind (P := fun r : Fs × Nat => SureI r.1 s b) (fun _ => ?_) (fun _ => ite_ind (P := fun r : Fs × Nat => SureI r.1 s b) (fun _ => ?_) (fun _ => ite_ind (P := fun r : Fs × Nat => SureI r.1 s b) (fun _ => ?_) (fun _ => ite_ind (P := fun r : Fs × Nat => SureI r.1 s b) (fun _ => ?_) (fun _ => ite_ind (P := fun r : Fs × Nat => SureI r.1 s b) (fun _ => ?_) (fun _ => ite_ind (P := fun r : Fs × Nat => SureI r.1 s b) (fun _ => ?_) (fun _ => ite_ind (P := fun r : Fs × Nat => SureI r.1 s b) (fun _ => ?_) (fun _ => ite_ind (P := fun r : Fs × Nat => SureI r.1 s b) (fun _ => ?_) (fun _ => h)))))))))
  · unfold fsCreate
    repeat' (refine ite_ind (P := fun r : Fs × Nat => SureI r.1 s b) (fun _ => ?_) (fun _ => ?_))
    all_goals try exact h
    refine ⟨h.sure, ?_, ?_, hrow _ hs h1⟩
    · exact (mGet_dirDo (m := ⟨0, .empty, o.name, S.fl.length + 1⟩) ho.seen.ok hs h1).trans h.seen
    · show (S.fl ++ [⟨[], [], []⟩])[0]? = _
      rw [List.getElem?_append_left (List.getElem?_eq_some_iff.1 h.file).1, h.file]
  · unfold fsAppend
    refine ite_ind (P := fun r : Fs × Nat => SureI r.1 s b) (fun _ => h) (fun hg => ite_ind (P := fun r : Fs × Nat => SureI r.1 s b) (fun _ => h) (fun _ => ?_))
    obtain ⟨n, _, hN, e1, e2⟩ := hoth _ h1 hg
    rw [hN]
    exact ⟨h.sure, h.seen, hmod n _ e1 e2, h.row⟩
  · unfold fsWrite
    refine ite_ind (P := fun r : Fs × Nat => SureI r.1 s b) (fun _ => h) (fun hg => ite_ind (P := fun r : Fs × Nat => SureI r.1 s b) (fun _ => h) (fun _ => ite_ind (P := fun r : Fs × Nat => SureI r.1 s b) (fun _ => h) (fun _ => ?_)))
    obtain ⟨n, _, hN, e1, e2⟩ := hoth _ h1 hg
    rw [hN]
    exact ⟨h.sure, h.seen, hmod n _ e1 e2, h.row⟩
  · unfold fsCut
    refine ite_ind (P := fun r : Fs × Nat => SureI r.1 s b) (fun _ => h) (fun hg => ite_ind (P := fun r : Fs × Nat => SureI r.1 s b) (fun _ => h) (fun _ => ?_))
    obtain ⟨n, _, hN, e1, e2⟩ := hoth _ h1 hg
    rw [hN]
    exact ⟨h.sure, h.seen, hmod n _ e1 e2, h.row⟩
  · unfold fsRename
    refine ite_ind (P := fun r : Fs × Nat => SureI r.1 s b) (fun _ => h) (fun hg => ite_ind (P := fun r : Fs × Nat => SureI r.1 s b) (fun _ => h) (fun _ => ?_))
    exact ⟨h.sure, (mGet_dirDo (m := ⟨1, o.name, o.to_, 0⟩) ho.seen.ok h1 h2).trans h.seen, h.file, hrow _ h1 h2⟩
  · unfold fsRemove
    refine ite_ind (P := fun r : Fs × Nat => SureI r.1 s b) (fun _ => h) (fun hg => ?_)
    exact ⟨h.sure, (mGet_dirDo (m := ⟨2, o.name, .empty, 0⟩) ho.seen.ok h1 hs).trans h.seen, h.file, hrow _ h1 hs⟩
  · unfold fsSync
    refine ite_ind (P := fun r : Fs × Nat => SureI r.1 s b) (fun _ => h) (fun hg => ite_ind (P := fun r : Fs × Nat => SureI r.1 s b) (fun _ => ⟨h.sure, h.seen, h.file, h.row⟩) (fun _ => ?_))
    obtain ⟨n, _, hN, e1, e2⟩ := hoth _ h1 hg
    rw [hN]
    exact ⟨h.sure, h.seen, hmod n _ e1 e2, h.row⟩
  · unfold fsSyncDir
    exact ite_ind (P := fun r : Fs × Nat => SureI r.1 s b) (fun _ => h) (fun _ => ite_ind (P := fun r : Fs × Nat => SureI r.1 s b) (fun _ => ⟨h.sure, h.seen, h.file, h.row⟩) (fun _ => ⟨h.seen, h.seen, h.file, fun m hm => by cases hm⟩))
  · unfold fsArm
    exact ite_ind (P := fun r : Fs × Nat => SureI r.1 s b) (fun _ => h) (fun _ => ite_ind (P := fun r : Fs × Nat => SureI r.1 s b) (fun _ => h) (fun _ => ⟨h.sure, h.seen, h.file, h.row⟩))
theorem sure_fail {S : Fs} {s : ByteArray} {b : List UInt8} (ho : FsOk S) (h : SureI S s b) (l : List Int) : fsRead (fsFail S l) s 0 1048576 = (b, 0) := by
  have hd : mGet (failDir S l) s = some 1 := by
    unfold failDir
    rw [mGet_fold ho.sure (movesOk_take ho.moves _) (fun m hm => h.row m (List.mem_of_mem_take hm))]
    exact h.sure
  obtain ⟨i, _, hr⟩ := read_fail ho l hd
  have hf : flAt S.fl 1 = ⟨b, b, []⟩ := by unfold flAt; rw [h.file]; rfl
  rw [hr, hf, left_still rfl]
end Go.Proofs.Ythphonkiolmkiaa
/- Layer 14, the law SimfsRoom walked. -/
set_option linter.unusedVariables false
set_option linter.unusedSimpArgs false
namespace Go.Proofs.Ythphonkiolmkiaa
open Go.RowKit
set_option maxRecDepth 100000
set_option maxHeartbeats 8000000

theorem OpOk.bl {w w' : World} {o : OpA} (h : OpOk w o) (k : Bl w w') : OpOk w' o := ⟨h.call, h.name, h.to_, h.off, h.len, h.rd.bl k⟩
theorem room_calls (room : Int) (A : Option Addr) (l : List OpA) (c : Nat) (W : World) (hroom : -9223372036854775808 ≤ room ∧ room ≤ 9223372036854775807) (hl : l.length ≤ 140737488351232) (hr : Rd W A (l.flatMap opv)) (ho : ∀ o ∈ l, OpOk W o) :
    Calls Try.prog 8 #[.int .i64 room, .slice A l.length c] W (RetTrue W) := by
  have HR := Lib.hid hr
  have HO := Lib.hid ho
  have HL := Lib.hid hl
  have HM0 := Lib.hid (Mem.start W)
  clear hr ho
  go_enter Try.func8, Try.ntmps8
  go_wp2_with fail
  refine (fs_New room HM0.out).mono ?_
  rintro en w1 (⟨h1, rfl, m⟩ | ⟨h1, q, rfl, m⟩)
  · have HM1 := Lib.hid m
    clear m HM0
    have h2 : room < 0 ∨ (¬ room < 0 ∧ 1048576 < room) := by omega
    clear h1
    rcases h2 with g1 | ⟨g1, g2⟩
    all_goals
      go_wp2_with fail
      refine (works_calls HM1.out).mono ?_
      rintro en w2 ⟨rfl, m⟩
      have HM2 := Lib.hid m
      clear m HM1
      go_wp2_with fail
      go_ret
      exact RetTrue.mk rfl HM2.out.toBl
  · obtain ⟨r, rfl⟩ : ∃ r : Nat, room = (r : Int) := ⟨room.toNat, by omega⟩
    rw [Int.toNat_natCast] at m
    have hrm : r ≤ 1048576 := by omega
    have HM1 := Lib.hid m
    clear m HM0 h1
    go_wp2_with fail
    refine (great_calls A l c w1 hl (HR.out.bl (HM1.out.toBlAt 1 rfl rfl rfl rfl)) (fun o h => (HO.out o h).bl (HM1.out.toBlAt 1 rfl rfl rfl rfl))).mono ?_
    rintro en w2 ⟨g, rfl, rfl, hg⟩
    cases g with
    | true =>
      clear hg
      go_wp2_with fail
      refine (works_calls HM1.out).mono ?_
      rintro en w2 ⟨rfl, m⟩
      have HM2 := Lib.hid m
      clear m HM1
      go_wp2_with fail
      go_ret
      exact RetTrue.mk rfl (HM2.out.toBlAt 1 rfl rfl rfl rfl)
    | false =>
      have hg2 := hg rfl
      clear hg
      go_wp2_with fail
      go_loopw [7, 8, 9, 10] (fun v7 _ _ _ wr => ∃ (i : Nat) (S : Fs), v7 = .int .i64 i ∧ i ≤ l.length ∧ S.acts ≤ i ∧ Hid (RoomI S r) ∧ Hid (Mem W (fsC q S :: [old W]) wr)) (fun v7 _ _ _ _ => l.length - (intOf v7).toNat)
      case atStart => exact ⟨0, newFs r, rfl, Nat.zero_le _, Nat.le_refl _, ⟨rfl, rfl, rfl, List.Pairwise.nil, Nat.zero_le _⟩, HM1⟩
      case round =>
        obtain ⟨i, S, rfl, hi, ha, HI, HS⟩ := hrel
        clear HM1
        by_cases hlt : i < l.length
        case pos =>
          obtain ⟨o, hx⟩ : ∃ o, l[i]? = some o := ⟨_, List.getElem?_eq_getElem hlt⟩
          have HOK := Lib.hid (HO.out o (List.mem_of_getElem? hx))
          have hOV := HS.out.toBlAt 1 rfl rfl rfl rfl
          obtain ⟨b, off, rfl, hcell⟩ := Rd.rec (f := opv) (k := 5) (fun _ => rfl) HR.out hx (by omega)
          have HCELL := Lib.hid (fun (v : World) (h : Bl W v) (r : Nat) (x : Value) (hx : (opv o)[r]? = some x) => h.cellAt (hcell r x hx))
          have hlt2 : (i : Int) < (l.length : Int) := by omega
          have k0 : wr.cell? ⟨b, off + i * 5, none⟩ = some (.int .u8 (o.call : Int)) := HCELL.out wr hOV 0 _ rfl
          clear hcell hx hOV
          by_cases h8 : 8 ≤ o.call
          · have i8 : (8 : Int) ≤ (o.call : Int) := by omega
            go_wp2_with fail
            go_roundw
            case rel => exact ⟨i + 1, S, rfl, hlt, Nat.le_succ_of_le ha, HI, HS⟩
            case measure => simp [intOf]; omega
          · have i8 : ¬ ((8 : Int) ≤ (o.call : Int)) := by omega
            have HLIVE := Lib.hid (show fsUsed S = S.used by unfold fsUsed; rw [HI.out.live]; rfl)
            have HSTEP := Lib.hid (room_step HS.out.fsOk HI.out o (by omega))
            have HDO := Lib.hid (fun (v : World) (h : Mem W (fsC q S :: [old W]) v) => do_calls o h HOK.out.name HOK.out.to_ HOK.out.off.2 (by have := HOK.out.len; omega) (fun u m => HOK.out.rd.bl (m.toBlAt 1 rfl rfl rfl rfl)) (by omega))
            generalize fsDo S o = r' at HSTEP HDO
            obtain ⟨S', e'⟩ := r'
            simp only [opV] at HDO
            go_wp2_with fail
            refine (fs_Acts HS.out).mono ?_
            rintro en w3 ⟨rfl, m⟩
            have HM3 := Lib.hid m
            clear m HS k0
            go_wp2_with fail
            refine (fs_Used HM3.out).mono ?_
            rintro en w4 ⟨rfl, m⟩
            rw [HLIVE.out]
            have HM4 := Lib.hid m
            have hOV := m.toBlAt 1 rfl rfl rfl rfl
            have k0 : w4.cell? ⟨b, off + i * 5, none⟩ = some (.int .u8 (o.call : Int)) := HCELL.out w4 hOV 0 _ rfl
            have k1 : w4.cell? ⟨b, off + i * 5 + 1, none⟩ = some (sE o.name) := HCELL.out w4 hOV 1 _ rfl
            have k2 : w4.cell? ⟨b, off + i * 5 + 2, none⟩ = some (sE o.to_) := HCELL.out w4 hOV 2 _ rfl
            have k3 : w4.cell? ⟨b, off + i * 5 + 3, none⟩ = some (.int .i64 o.off) := HCELL.out w4 hOV 3 _ rfl
            have k4 : w4.cell? ⟨b, off + i * 5 + 4, none⟩ = some (.slice o.A o.b.length o.c) := HCELL.out w4 hOV 4 _ rfl
            clear m HM3 hOV
            go_wp2_with fail
            refine (HDO.out w4 HM4.out).mono ?_
            rintro en w5 ⟨rfl, m⟩
            have HM5 := Lib.hid (show Mem W (fsC q S' :: [old W]) w5 from m)
            clear m HM4 HDO k0 k1 k2 k3 k4
            obtain ⟨hI', hor⟩ := HSTEP.out
            simp only at hI' hor
            have HI' := Lib.hid hI'
            have HLIVE' := Lib.hid (show fsUsed S' = S'.used by unfold fsUsed; rw [hI'.live]; rfl)
            have hu : ¬ ((r : Int) < (S'.used : Int)) := by have := hI'.used; omega
            clear hI' HSTEP
            rcases hor with ⟨he, hS⟩ | ⟨he, hA⟩
            · subst hS
              have he1 : ((e' : Int) != 0) = true := by simp; omega
              have he2 : ((e' : Int) == 0) = false := by simp; omega
              clear he
              go_wp2_with fail
              refine (fs_Acts HM5.out).mono ?_
              rintro en w6 ⟨rfl, m⟩
              have HM6 := Lib.hid m
              clear m HM5
              go_wp2_with fail
              refine (fs_Used HM6.out).mono ?_
              rintro en w7 ⟨rfl, m⟩
              rw [HLIVE'.out]
              have HM7 := Lib.hid m
              clear m HM6
              go_wp2_with fail
              refine (fs_Used HM7.out).mono ?_
              rintro en w8 ⟨rfl, m⟩
              rw [HLIVE'.out]
              have HM8 := Lib.hid m
              clear m HM7
              go_wp2_with fail
              go_roundw
              case rel => exact ⟨i + 1, S', rfl, hlt, Nat.le_succ_of_le ha, HI', HM8⟩
              case measure => simp [intOf]; omega
            · subst he
              have ha2 : (S.acts : Int) ≤ 140737488351232 := by omega
              go_wp2_with fail
              refine (fs_Acts HM5.out).mono ?_
              rintro en w6 ⟨rfl, m⟩
              rw [hA]
              have HM6 := Lib.hid m
              clear m HM5
              go_wp2_with fail
              refine (fs_Used HM6.out).mono ?_
              rintro en w7 ⟨rfl, m⟩
              rw [HLIVE'.out]
              have HM7 := Lib.hid m
              clear m HM6
              go_wp2_with fail
              go_roundw
              case rel => exact ⟨i + 1, S', rfl, hlt, by omega, HI', HM7⟩
              case measure => simp [intOf]; omega
        case neg =>
          have hlt2 : ¬ ((i : Int) < (l.length : Int)) := by omega
          go_wp2_with fail
          refine (fs_Dead HS.out).mono ?_
          rintro en w3 ⟨rfl, m⟩
          rw [HI.out.live]
          have HM3 := Lib.hid m
          clear m HS
          go_wp2_with fail
          refine (works_calls HM3.out).mono ?_
          rintro en w4 ⟨rfl, m⟩
          have HM4 := Lib.hid m
          clear m HM3
          go_wp2_with fail
          go_ret
          exact RetTrue.mk rfl (HM4.out.toBlAt 1 rfl rfl rfl rfl)
end Go.Proofs.Ythphonkiolmkiaa
