/- What FormatInt and the padded numbers answer: the program's and the reference's alike. No condition. -/
import Derived.Test.YtpodbdmeamgpgaaDoorDoor
import Derived.Test.YtpodbdmeamgpgaaDoorShelf
import Derived.Test.YtpodbdmeamgpgaaDoorNums
import Derived.Laws.IdiomStrings
namespace Go.Proofs.YtpodbdmeamgpgaaDoor
open Go.RowKit Go.PlainAid
open Go.Lib (itoa decDigits decDigits_two)
set_option maxRecDepth 100000
set_option linter.unusedVariables false
theorem extz (s : ByteArray) (a b : Nat) : (s.extract a b).size ≤ s.size := by simp only [ByteArray.size_extract]; omega
theorem below_grow (w : World) (k : Nat) (os : Array Obj) : Below w.heap.size w (Go.Sort.grow (w.drewN k) os) :=
  ⟨rfl, rfl, rfl, by show w.heap.size ≤ (w.heap ++ os).size; rw [Array.size_append]; omega, fun i hi => by show (w.heap ++ os)[i]? = w.heap[i]?; rw [Array.getElem?_append_left hi]⟩
/-- A call that answers a text. -/
def SPost (l : List UInt8) (w : World) (e : Ending) (w' : World) : Prop := ∃ r : ByteArray, e = .returned (.string r) ∧ Hid (r.data.toList = l) ∧ r.size = l.length ∧ Below w.heap.size w w'
theorem SPost.of {l : List UInt8} {w w' : World} {r : ByteArray} (h : r.data.toList = l) (b : Below w.heap.size w w') : SPost l w (.returned (.string r)) w' := ⟨r, rfl, h, by rw [← h]; simp, b⟩
/-- 'string([]byte{c})'. -/
theorem conv1 (w : World) (T : TypeId) (c : Int) : (convert 44 9 (.slice (some ⟨w.heap.size, 0, none⟩) 1 1)).run Tryd.prog (w.alloc (.cells #[.int .u8 c] T)) = .ok (.string ⟨#[UInt8.ofNat c.toNat]⟩) (w.alloc (.cells #[.int .u8 c] T)) := by
  rw [run_convert_bytes_string _ _ _ 5 _ _ _ Tryd.underlying44 Tryd.underlying5 Tryd.underlying9,
    run_bytesToString _ _ _ _ [c] (by simp [go_sem, loadCells])]
  rfl
theorem same_text {a b : ByteArray} {l : List UInt8} (ha : Hid (a.data.toList = l)) (hb : Hid (b.data.toList = l)) : a = b := by
  have h : a.data.toList = b.data.toList := ha.out.trans hb.out.symm
  obtain ⟨⟨x⟩⟩ := a; obtain ⟨⟨y⟩⟩ := b
  simp at h; rw [h]
theorem fmtI (n : Int) (w : World) (hn : okI n) (ht : Tabs w) : Calls Tryd.prog 21 #[.int .i64 n] w (SPost (itoa n) w) := by
  unfold okI at hn
  go_enter Tryd.func21, Tryd.ntmps21
  go_wp2_with fail
  refine (Tryd.strconv_Itoa n (by omega) (by omega) _ ht.1).mono ?_
  rintro e w' ⟨rfl, k, os, rfl⟩
  go_wp2_with fail
  go_ret
  exact SPost.of rfl (below_grow _ _ _)
theorem tmod_neg {y : Int} (h : y < 0) : -10 < y.tmod 10 ∧ y.tmod 10 ≤ 0 ∧ (y.natAbs % 10 : Nat) = -(y.tmod 10) ∧ (y.tdiv 10).natAbs = y.natAbs / 10 ∧ y ≤ y.tdiv 10 ∧ y.tdiv 10 ≤ 0 := by
  obtain ⟨u, rfl⟩ : ∃ u : Nat, y = -(u : Int) := ⟨y.natAbs, by omega⟩
  rw [Int.neg_tmod, Int.neg_tdiv, Int.tmod_eq_emod_of_nonneg (by omega), Int.tdiv_eq_ediv_of_nonneg (by omega)]
  omega
theorem dgs_len {u : Nat} (h : u ≤ 9223372036854775808) : (dgs u).length ≤ 20 := by
  unfold dgs
  split
  · simp
  · exact dec_len 19 u (by omega)
theorem fmt_step {y d y' : Int} {m : Nat} {r : ByteArray} (hy : y ≠ 0) (hd : ((y.natAbs % 10 : Nat) : Int) = d) (hy' : y'.natAbs = y.natAbs / 10) (H : Hid (dgs y.natAbs ++ r.data.toList = dgs m)) :
    Hid (dgs y'.natAbs ++ ((⟨#[UInt8.ofNat (48 + d).toNat]⟩ : ByteArray) ++ r).data.toList = dgs m) := by
  have h := H.out
  rw [dgs_step (by omega)] at h
  show _ = _
  rw [hy', ← h, ← hd, ByteArray.data_append, Array.toList_append, show (48 + ((y.natAbs % 10 : Nat) : Int)).toNat = 48 + y.natAbs % 10 by omega]
  simp
theorem fmt_end {n : Int} {r : ByteArray} (h0 : ¬ n = 0) (H : Hid (dgs (Int.natAbs 0) ++ r.data.toList = dgs n.natAbs)) : r.data.toList = decDigits n.natAbs := by
  have h := H.out
  have e1 : dgs (Int.natAbs 0) = [] := rfl
  have e2 : dgs n.natAbs = decDigits n.natAbs := if_neg (by omega)
  rw [e1, e2] at h
  exact h
set_option maxHeartbeats 1600000 in
theorem fmtS (n : Int) (w : World) (hn : okI n) : Calls Tryd.prog 20 #[.int .i64 n] w (SPost (itoa n) w) := by
  unfold okI at hn
  by_cases h0 : n = 0
  · subst h0
    go_enter Tryd.func20, Tryd.ntmps20
    go_wp2_with fail
    go_ret
    exact SPost.of (by rw [itoa_nat (by omega), dec_small (by decide)]; rfl) (Below.refl _ _)
  have e0 : (n == 0) = false := by simpa using h0
  have hcv := conv1
  go_enter Tryd.func20, Tryd.ntmps20
  go_wp2_with fail
  go_loopw [3, 4] (fun s x wr => ∃ (r : ByteArray) (y : Int), s = .string r ∧ x = .int .i64 y ∧ Hid (dgs y.natAbs ++ r.data.toList = dgs n.natAbs) ∧ y.natAbs ≤ n.natAbs ∧ okI y ∧ Below w.heap.size w wr) (fun _ x _ => (intOf x).natAbs)
  case atStart => exact ⟨_, _, rfl, rfl, by simp [Hid], Nat.le_refl _, hn, Below.refl _ _⟩
  case round =>
    obtain ⟨r, y, rfl, rfl, H, hle, hky, hb⟩ := hrel
    unfold okI at hky
    have hlen : r.size ≤ 20 := by
      have h1 := congrArg List.length H.out
      rw [List.length_append] at h1
      have h2 := dgs_len (u := n.natAbs) (by omega)
      rw [data_len] at h1
      omega
    by_cases hy : y = 0
    · subst hy
      by_cases hneg : n < 0
      · go_wp2_with fail
        go_ret
        exact SPost.of (by rw [ByteArray.data_append, Array.toList_append, itoa_head_neg hneg, fmt_end h0 H]; rfl) hb
      · go_wp2_with fail
        go_ret
        exact SPost.of (by rw [itoa_nat (by omega), fmt_end h0 H, show n.toNat = n.natAbs by omega]) hb
    · have ey : (y != 0) = true := by simpa using hy
      by_cases hneg : y < 0
      · obtain ⟨t1, t2, t3, t4, t5, t6⟩ := tmod_neg hneg
        have T4 := Lib.hid t4; clear t4
        by_cases hd : y.tmod 10 < 0
        · go_wp2_with fail
          go_roundw
          case rel => exact ⟨_, _, rfl, rfl, fmt_step hy (by omega) T4.out H, by rw [T4.out]; omega, by have := T4.out; unfold okI; omega, hb.alloc hb.size _⟩
          case measure => show (y.tdiv 10).natAbs < y.natAbs; rw [T4.out]; omega
        · go_wp2_with fail
          go_roundw
          case rel => exact ⟨_, _, rfl, rfl, fmt_step hy (by omega) T4.out H, by rw [T4.out]; omega, by have := T4.out; unfold okI; omega, hb.alloc hb.size _⟩
          case measure => show (y.tdiv 10).natAbs < y.natAbs; rw [T4.out]; omega
      · have T4 : Hid ((y / 10).natAbs = y.natAbs / 10) := Lib.hid (by omega)
        have y0 : 0 ≤ y := by omega
        go_wp2_with fail
        go_roundw
        case rel => exact ⟨_, _, rfl, rfl, fmt_step hy (by omega) T4.out H, by rw [T4.out]; omega, by have := T4.out; unfold okI; omega, hb.alloc hb.size _⟩
        case measure => show (y / 10).natAbs < y.natAbs; rw [T4.out]; omega
theorem padI (n : Int) (k : Nat) (w : World) (hn : okI n) (hk : k ≤ 20) (ht : Tabs w) : Calls Tryd.prog 76 #[.int .i64 n, .int .i64 k] w (SPost (padL n k) w) := by
  go_enter Tryd.func76, Tryd.ntmps76
  go_wp2_with fail
  refine (fmtI n _ hn ht).mono ?_
  rintro e w1 ⟨r, rfl, H, hr, b1⟩
  have hr' : r.size ≤ 21 := by have := Lib.itoa_length_le n hn.1 hn.2; omega
  have HR := Lib.hid hr; clear hr
  go_wp2_with fail
  rw [show max 0 ((k : Int) - (r.size : Int)) = ((k - r.size : Nat) : Int) from by omega]
  refine (Tryd.strings_Repeat ⟨#[48]⟩ (k - r.size) _ (by omega) (by show 1 * _ ≤ _; omega)).mono ?_
  rintro e w2 ⟨rfl, b2⟩
  have hz := Lib.repeatL_replicate 48 1 (k - r.size)
  rw [Nat.mul_one] at hz
  have hz2 : (⟨(Lib.repeatL (⟨#[48]⟩ : ByteArray).data.toList (k - r.size)).toArray⟩ : ByteArray).data.toList = List.replicate (k - r.size) 48 := hz
  generalize (⟨(Lib.repeatL (⟨#[48]⟩ : ByteArray).data.toList (k - r.size)).toArray⟩ : ByteArray) = z at hz2 ⊢
  have hzs : z.size ≤ 20 := by have := congrArg List.length hz2; rw [data_len, List.length_replicate] at this; omega
  have HZ := Lib.hid hz2; clear hz hz2
  go_wp2_with fail
  go_ret
  exact SPost.of (by rw [ByteArray.data_append, Array.toList_append, HZ.out, H.out, HR.out]; rfl) (chain b1 b2)
set_option maxHeartbeats 800000 in
theorem padS (n : Int) (k : Nat) (w : World) (hn : okI n) (hk : k ≤ 20) : Calls Tryd.prog 75 #[.int .i64 n, .int .i64 k] w (SPost (padL n k) w) := by
  have hl := Lib.itoa_length_le n hn.1 hn.2
  go_enter Tryd.func75, Tryd.ntmps75
  go_wp2_with fail
  refine (fmtS n _ hn).mono ?_
  rintro e w1 ⟨r, rfl, H, hr, b1⟩
  have hr' : r.size ≤ 21 := by omega
  have HR := Lib.hid hr; clear hr
  go_wp2_with fail
  go_loop [5] (fun s => ∃ (q : ByteArray) (j : Nat), s = .string q ∧ Hid (q.data.toList = List.replicate j 48 ++ itoa n) ∧ Hid (q.size = j + r.size) ∧ (0 < j → q.size ≤ k)) (fun s => match s with | .string q => k - q.size | _ => 0)
  case atStart => exact ⟨_, 0, rfl, by show _ = _; rw [H.out]; rfl, by show _ = _; omega, by omega⟩
  case round =>
    obtain ⟨q, j, rfl, Hq, Hs, hj⟩ := hrel
    have hq : q.size ≤ 41 := by have := Hs.out; omega
    by_cases hlt : q.size < k
    · go_wp2_with fail
      go_round
      case rel => exact ⟨_, j + 1, rfl, by show _ = _; rw [ByteArray.data_append, Array.toList_append, Hq.out]; rfl, by show _ = _; rw [ByteArray.size_append, Hs.out]; show 1 + _ = _; omega, fun _ => by rw [ByteArray.size_append]; show 1 + _ ≤ _; omega⟩
      case measure => show k - (ByteArray.size _) < k - q.size; rw [ByteArray.size_append]; show k - (1 + _) < _; omega
    · go_wp2_with fail
      go_ret
      refine SPost.of ?_ b1
      rw [Hq.out]
      unfold padL
      congr 2
      have h1 := Hs.out
      have h2 := HR.out
      rcases Nat.eq_zero_or_pos j with h0 | h0
      · omega
      · have := hj h0; omega
end Go.Proofs.YtpodbdmeamgpgaaDoor
