/- The law of layer 22 walked: lives. -/
import Derived.Test.YtedmamchfgkkfaaDeedF
import Derived.Lib.SlBytesConst
namespace Go.Proofs.Ytedmamchfgkkfaa
open Go.RowKit
set_option maxRecDepth 100000
set_option maxHeartbeats 2000000

theorem lebPut_one (n : Nat) (h : n < 128) : lebPut n = [n.toUInt8] := by rw [lebPut, dif_pos h]
theorem lebPut_300 : lebPut 300 = [172, 2] := by
  rw [lebPut, dif_neg (by omega), lebPut_one _ (by omega)]; rfl
theorem live_put1 : deedPut 1 0 0 [97, 98] = ([1, 0, 0, 2, 97, 98], 0) := by
  simp [deedPut, deedMay, deedBytes, lebRowPut, lebPut_one]
theorem live_put2 : deedPut 5 300 2 [] = ([5, 172, 2, 2, 0], 0) := by
  simp [deedPut, deedMay, deedBytes, lebRowPut, lebPut_one, lebPut_300]
theorem live_get : deedGet [5, 172, 2, 2, 0] = ⟨5, 300, 2, [], 0⟩ := by
  rfl
theorem live_call1 (A : Option Addr) (w : World) (hr : Rd w A (([97, 98] : List UInt8).map bv)) :
    Calls Try.prog 13 #[deedV 1 0 0 A 2 2] w fun e w' => ∃ B c, e = .returned (.tuple #[.slice B 6 c, .int .i64 0]) ∧ App w' w.heap.size 5 1 (.slice B 6 c) 6 (([1, 0, 0, 2, 97, 98] : List UInt8).map bv) ∧ Bl w w' := by
  have h := deed_Put 1 0 0 A [97, 98] 2 w (by simp) (by omega) (by unfold Hid; omega) hr
  rw [live_put1] at h
  refine h.mono ?_
  rintro e w1 ⟨v1, rfl, hown1, hbl1⟩
  obtain ⟨A1, c1, rfl, hcc1⟩ := hown1.slice
  exact ⟨A1, c1, rfl, hown1, hbl1⟩
theorem live_call2 (w : World) :
    Calls Try.prog 13 #[deedV 5 300 2 none 0 0] w fun e w' => ∃ B c, e = .returned (.tuple #[.slice B 5 c, .int .i64 0]) ∧ App w' w.heap.size 5 1 (.slice B 5 c) 5 (([5, 172, 2, 2, 0] : List UInt8).map bv) ∧ Bl w w' := by
  have h := deed_Put 5 300 2 none [] 0 w (by simp) (by omega) (by unfold Hid; omega) (Rd.nil _ _)
  rw [live_put2] at h
  refine h.mono ?_
  rintro e w1 ⟨v1, rfl, hown1, hbl1⟩
  obtain ⟨A1, c1, rfl, hcc1⟩ := hown1.slice
  exact ⟨A1, c1, rfl, hown1, hbl1⟩
theorem live_call3 (A : Option Addr) (c : Nat) (w w0 : World) (base : Nat) (h : App w0 base 5 1 (.slice A 5 c) 5 (([5, 172, 2, 2, 0] : List UInt8).map bv)) (hb : Bl w0 w) :
    Calls Try.prog 21 #[.slice A 5 c] w fun e w' => ∃ B, e = .returned (.tuple #[deedV 5 300 2 B 0 0, .int .i64 0]) ∧ Bl w w' := by
  obtain ⟨A1, c1, h1, hcc⟩ := h.slice
  cases h1
  have h := deed_Get A c [5, 172, 2, 2, 0] w (by simp) hcc (h.rd.1.bl hb)
  rw [live_get] at h
  refine h.mono ?_
  rintro e w1 ⟨B, rfl, _, hbl1⟩
  exact ⟨B, rfl, hbl1⟩
theorem bytes_lit (w : World) (xs : List UInt8) (cs : Array Value) (e : TypeId) (h : cs = (xs.map bv).toArray) : Rd (w.alloc (.cells cs e)) (some ⟨w.heap.size, 0, none⟩) (xs.map bv) := by
  subst h
  have := rd_of_block (heap_alloc_new w (.cells (xs.map bv).toArray e)) 0 xs.length
  rwa [List.drop_zero, List.take_of_length_le (by simp)] at this
theorem same_lit (A : Option Addr) (c n g : Nat) (xs : List UInt8) (cs : Array Value) (w w0 : World) (base : Nat) (hn : n = xs.length) (hn2 : n ≤ 1000) (hg : g = w.heap.size) (hcs : cs = (xs.map bv).toArray) (h : App w0 base 5 1 (.slice A n c) n (xs.map bv)) (hb : Bl w0 w) :
    Calls Try.prog 19 #[.slice A n c, .slice (some ⟨g, 0, none⟩) n n] (w.alloc (.cells cs 5)) (RetDr true (w.alloc (.cells cs 5))) := by
  subst hn hg
  have h2 := same_calls A (some ⟨w.heap.size, 0, none⟩) c xs.length xs xs (w.alloc (.cells cs 5)) (by omega) (h.rd.1.bl (hb.alloc _)) (bytes_lit w xs cs _ hcs)
  simpa using h2
theorem deed_lives (w : World) : Calls Try.prog 25 #[] w (RetBl true w) := by
  have kc := fun (w : World) (C : Array Value) (n c : Nat) => Lib.run_convert_bytes_const (P := Try.prog) w 24 5 C n c Try.underlying24 Try.underlying5
  have HA : Hid (Rd (w.alloc (.cells #[.int .u8 97, .int .u8 98] 5 (2, 3))) (some ⟨w.heap.size, 0, none⟩) (([97, 98] : List UInt8).map bv)) := by
    have := rd_of_block (heap_alloc_new w (.cells #[.int .u8 97, .int .u8 98] 5 (2, 3))) 0 2
    exact this
  go_enter Try.func25, Try.ntmps25
  go_wp2_with fail
  refine (live_call1 _ _ HA.out).mono ?_
  rintro e w1 ⟨A1, c1, rfl, hown1, hbl1⟩
  clear HA
  have HO1 := Lib.hid hown1
  have hw1 := Lib.hid (((Bl.refl w).alloc _).trans hbl1)
  clear hown1 hbl1
  go_wp2_with fail
  refine (live_call2 _).mono ?_
  rintro e w2 ⟨A2, c2, rfl, hown2, hbl2⟩
  have HO2 := Lib.hid hown2
  have hw2 := Lib.hid hbl2
  clear hown2 hbl2
  go_wp2_with fail
  refine (live_call3 _ _ _ _ _ HO2.out (Bl.refl _)).mono ?_
  rintro e w3 ⟨B3, rfl, hbl3⟩
  have hw3 := Lib.hid hbl3
  clear hbl3
  have hpc : ∀ w' : World, Bl (w3.alloc (.cells #[.int .u8 5, .int .u64 300, .int .i64 2, .slice B3 0 0] 26)) w' → w'.cell? ⟨w3.heap.size, 1, none⟩ = some (.int .u64 300) := fun w' hw => by
    have hh := hw.heap (heap_alloc_new w3 _)
    exact cell_of_row _ _ 1 _ _ _ hh
  have HPC := Lib.hid hpc
  clear hpc
  have HB1 := Lib.hid (((Bl.refl w3).alloc (.cells #[.int .u8 5, .int .u64 300, .int .i64 2, .slice B3 0 0] 26)))
  go_wp2_with fail
  refine (same_lit A1 c1 6 _ [1, 0, 0, 2, 97, 98] _ _ _ _ rfl (by omega) (by simp) rfl HO1.out ((hw2.out.trans hw3.out).trans HB1.out)).mono ?_
  rintro e w4 ⟨rfl, hdr⟩
  have HB2 := Lib.hid ((HB1.out.alloc (.cells #[.int .u8 1, .int .u8 0, .int .u8 0, .int .u8 2, .int .u8 97, .int .u8 98] 5)).trans (hdr.below _))
  have HP2 := Lib.hid (((Bl.refl _).alloc (.cells #[.int .u8 1, .int .u8 0, .int .u8 0, .int .u8 2, .int .u8 97, .int .u8 98] 5)).trans (hdr.below _))
  clear hdr
  go_wp2_with fail
  refine (same_lit A2 c2 5 _ [5, 172, 2, 2, 0] _ _ _ _ rfl (by omega) (by simp) rfl HO2.out (hw3.out.trans HB2.out)).mono ?_
  rintro e w5 ⟨rfl, hdr⟩
  have HB3 := Lib.hid ((HB2.out.alloc (.cells #[.int .u8 5, .int .u8 172, .int .u8 2, .int .u8 2, .int .u8 0] 5)).trans (hdr.below _))
  have hc := HPC.out w5 ((HP2.out.alloc (.cells #[.int .u8 5, .int .u8 172, .int .u8 2, .int .u8 2, .int .u8 0] 5)).trans (hdr.below _))
  clear hdr
  go_wp2_with fail
  go_ret
  exact RetBl.mk rfl (((hw1.out.trans hw2.out).trans hw3.out).trans HB3.out)
end Go.Proofs.Ytedmamchfgkkfaa
