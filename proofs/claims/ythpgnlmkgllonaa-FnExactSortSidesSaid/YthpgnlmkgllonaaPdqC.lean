/- The library's sort: breaking patterns only moves. No condition. -/
import Derived.Test.YthpgnlmkgllonaaPdqA
import Derived.Test.YthpgnlmkgllonaaShelf
import Derived.Sort.LotD1
import Derived.Sort.LotD5
import Derived.Laws.Bits64b
namespace Go.Proofs.Ythpgnlmkgllonaa
open Go.RowKit Go.PlainAid
open SB
set_option maxRecDepth 100000
set_option linter.unusedVariables false
variable {α : Type}
theorem gr_new {w a b : World} {row : Option Nat} {q : Nat} (h : w.grownBy a row) (g : a.grownBy b (some q)) (hq : w.heap.size ≤ q) : w.grownBy b row := ⟨g.os.trans h.os, g.tape.trans h.tape, g.output.trans h.output, Nat.le_trans h.size g.size, fun i hi hne => (g.block i (Nat.lt_of_lt_of_le hi h.size) (by intro e; injection e with e; omega)).trans (h.block i hi hne)⟩
theorem gr_set {w : World} {q k : Nat} (v : Value) (n : Nat) : w.grownBy ((w.setCell ⟨q, k, none⟩ v).drewN n) (some q) := ⟨rfl, rfl, rfl, by show w.heap.size ≤ (w.setCell ⟨q, k, none⟩ v).heap.size; simp, fun i _ hk => heap_setCell_other w ⟨q, k, none⟩ i v (fun e => hk (by simp [e]))⟩
theorem gr_frozen {w w' : World} {row b j : Nat} (h : w.grownBy w' (some row)) (hl : b < w.heap.size) (hf : w.frozen? ⟨b, j, none⟩ = false) (hr : b ≠ row) : w'.frozen? ⟨b, j, none⟩ = false :=
  (World.frozen?_of_block (w := w) (a := ⟨b, j, none⟩) (h.block b hl (by intro e; injection e with e; exact hr e))).trans hf
set_option maxHeartbeats 3200000 in
theorem break_r {bs B : Nat} {rl rs : Value} {lt : α → α → Bool} {n row : Nat} {St : World → (Nat → α) → Prop} (E : REnv bs B rl rs lt n row St) (hn : n < 1099511627776) (a b : Nat) (x y : Int) (hx : x = (a : Int)) (hy : y = (b : Int)) (w : World) (d : Nat → α) (h : St w d) (h1 : a + 12 < b) (h2 : b ≤ n) :
    Calls Try.prog 19 #[.iface 36 (.pointer (some ⟨B, 0, none⟩)), .int .i64 x, .int .i64 y] w (SPostS row St (fun d' => Mv a b d d') w) := by
  subst hx hy
  have hR := Lib.hid E
  obtain ⟨l, hl⟩ : ∃ l : Nat, l = b - a := ⟨_, rfl⟩
  obtain ⟨q, hq⟩ : ∃ q : Nat, q = l / 4 := ⟨_, rfl⟩
  have hl1 : (b : Int) - (a : Int) = (l : Int) := by omega
  have hq1 : (l : Int).tdiv 4 = (q : Int) := by rw [Int.tdiv_eq_ediv_of_nonneg (by omega)]; omega
  have hq2 : (l : Int) / 4 = (q : Int) := by omega
  have l8 : (8 : Int) ≤ (l : Int) := by omega
  have q1 : 3 ≤ q := by omega
  have q2 : 4 * q ≤ l := by omega
  have l9 : a + l = b := by omega
  have HL9 := Lib.hid l9
  have bn : a + l ≤ n := by omega
  have hu : IntKind.u64.wrap (l : Int) = (l : Int) := by simp [IntKind.wrap, IntKind.bits, IntKind.signed]; omega
  obtain ⟨M, hM⟩ : ∃ M : Nat, M = 1 <<< Go.Sort.bitsLen l := ⟨_, rfl⟩
  have hM1 : 1 ≤ M := by rw [hM, Nat.one_shiftLeft]; exact Nat.two_pow_pos _
  have hM2 : M ≤ 2 * l := by rw [hM, Nat.one_shiftLeft]; exact Go.Sort.two_pow_bitsLen_le (by omega)
  have hNP := fun w => Try.nextPowerOfTwo l (by omega) w
  rw [← hM] at hNP
  have hbase := (E.base h)
  obtain ⟨rb, hrb⟩ : ∃ rb, rb = w.heap.size := ⟨_, rfl⟩
  have b0 : Below w.heap.size w (w.alloc (.cells #[.int .u64 (l : Int)] 53)) := (Below.refl _ _).alloc (Nat.le_refl _) _
  have hS0 := E.keep h b0
  have k0 : (w.alloc (.cells #[.int .u64 (l : Int)] 53)).cell? ⟨rb, 0, none⟩ = some (.int .u64 ((l : Nat) : Int)) := by rw [hrb]; simp [go_sem]
  have f0 : (w.alloc (.cells #[.int .u64 (l : Int)] 53)).frozen? ⟨rb, 0, none⟩ = false := by rw [hrb]; simp [go_sem]
  have z0 : rb < (w.alloc (.cells #[.int .u64 (l : Int)] 53)).heap.size := by rw [hrb]; simp
  have hG0 := gr_below (gr_refl w row) b0
  have r1 : bs ≤ rb := by omega
  have r2 : row < bs := hbase.2
  have r3 : rb ≠ row := by omega
  have HRB := Lib.hid (show w.heap.size ≤ rb by omega)
  have HNP := Lib.hid hNP
  clear hl hq l9 h1 hM hNP b0 hbase
  go_enter Try.func19, Try.ntmps19
  go_wp2_with fail
  rw [← hrb]
  clear hrb
  generalize hW0 : w.alloc (.cells #[.int .u64 (l : Int)] 53) = W0 at hS0 k0 f0 z0 hG0 ⊢
  clear hW0
  refine (HNP.out _).mono ?_
  rintro e1 w1 ⟨rfl, rfl⟩
  go_wp2_with fail
  go_loopw [9, 10] (fun iv _ wr => ∃ (i : Nat) (e : Nat → α) (X : Nat), a + 2 * q ≤ i + 1 ∧ i ≤ a + 2 * q + 2 ∧ iv = .int .i64 (i : Int) ∧ St wr e ∧ Hid (Mv a b d e) ∧ X < 18446744073709551616 ∧ wr.cell? ⟨rb, 0, none⟩ = some (.int .u64 (X : Int)) ∧ wr.frozen? ⟨rb, 0, none⟩ = false ∧ w.grownBy wr (some row)) (fun iv _ _ => a + 2 * q + 3 - (intOf iv).toNat)
  case atStart => exact ⟨a + 2 * q - 1, d, l, by omega, by omega, by congr 1 <;> omega, hS0, Lib.hid (Mv.refl _ _ _), by omega, k0, f0, hG0⟩
  case round =>
    clear k0 f0 z0 hS0 hG0
    obtain ⟨i, e, X, i0, i1, rfl, hW, HE, hX, kc, fc, hG⟩ := hrel
    by_cases hi : i ≤ a + 2 * q + 1
    · have hi' : (i : Int) ≤ (a : Int) + (q : Int) * 2 + 1 := by omega
      obtain ⟨R, hR'⟩ : ∃ R : Nat, R = Go.Sort.xorNextN X := ⟨_, rfl⟩
      have lR : R < 18446744073709551616 := by rw [hR']; exact Go.Sort.xorNextN_lt X hX
      obtain ⟨O, hO⟩ : ∃ O : Nat, O = R &&& (M - 1) := ⟨_, rfl⟩
      have lO : O ≤ M - 1 := by rw [hO]; exact Nat.and_le_right
      have eAnd : bits .and .u64 (R : Int) ((M : Int) - 1) = (O : Int) := by
        rw [show ((M : Int) - 1) = ((M - 1 : Nat) : Int) by omega, bits_and_u64_nat _ _ lR (by omega), hO]
      have NX := Try.xorshift_Next rb 0 X hX wr kc fc
      rw [← hR'] at NX
      have hg1 : wr.grownBy ((wr.setCell ⟨rb, 0, none⟩ (.int .u64 (R : Int))).drewN 3) (some rb) := gr_set _ _
      have hW1 := hR.out.far hW r1 hg1
      have kc1 : ((wr.setCell ⟨rb, 0, none⟩ (.int .u64 (R : Int))).drewN 3).cell? ⟨rb, 0, none⟩ = some (.int .u64 (R : Int)) := World.cell?_setCell_same' _ _ _ (by rw [kc]; rfl)
      have fc1 : ((wr.setCell ⟨rb, 0, none⟩ (.int .u64 (R : Int))).drewN 3).frozen? ⟨rb, 0, none⟩ = false := by
        show (wr.setCell ⟨rb, 0, none⟩ (.int .u64 (R : Int))).frozen? ⟨rb, 0, none⟩ = false
        rw [World.frozen?_setCell]; exact fc
      have hG1 := gr_new hG hg1 HRB.out
      clear hg1 kc fc hO hR' hX
      go_wp2_with fail
      refine NX.mono ?_
      rintro e1 w2 ⟨rfl, hw2⟩
      rw [← hw2] at hW1 kc1 fc1 hG1
      clear hw2 NX
      have lt2 := cell_lt kc1
      have HK := Lib.hid kc1; have HF := Lib.hid fc1; clear kc1 fc1
      by_cases hO : (l : Int) ≤ (O : Int)
      · skip
        have ms := hR.out.mswap hW1
        have hsw := hR.out.swap (w := w2) i (a + (O - l)) (i : Int) ((a : Int) + ((O : Int) - (l : Int))) rfl (by omega) hW1 (by omega) (by omega)
        have NEW := Lib.hid (HE.out.trans (Mv.swp (a := a) (b := b) e (i := i) (j := a + (O - l)) ⟨by omega, by have := HL9.out; omega⟩ ⟨by omega, by have := HL9.out; omega⟩))
        go_wp2_with fail
        refine hsw.mono ?_
        rintro e' w3 ⟨rfl, hS3, hg3⟩
        clear hsw ms
        go_wp2_with fail
        go_roundw
        case rel => exact ⟨i + 1, _, R, by omega, by omega, by go_num, hS3, NEW, lR, gr_cell hg3 HK.out r3, gr_frozen hg3 lt2 HF.out r3, gr_trans hG1 hg3⟩
        case measure => simp [intOf] <;> omega
      · skip
        have ms := hR.out.mswap hW1
        have hsw := hR.out.swap (w := w2) i (a + (O)) (i : Int) ((a : Int) + ((O : Int))) rfl (by omega) hW1 (by omega) (by omega)
        have NEW := Lib.hid (HE.out.trans (Mv.swp (a := a) (b := b) e (i := i) (j := a + (O)) ⟨by omega, by have := HL9.out; omega⟩ ⟨by omega, by have := HL9.out; omega⟩))
        go_wp2_with fail
        refine hsw.mono ?_
        rintro e' w3 ⟨rfl, hS3, hg3⟩
        clear hsw ms
        go_wp2_with fail
        go_roundw
        case rel => exact ⟨i + 1, _, R, by omega, by omega, by go_num, hS3, NEW, lR, gr_cell hg3 HK.out r3, gr_frozen hg3 lt2 HF.out r3, gr_trans hG1 hg3⟩
        case measure => simp [intOf] <;> omega
    · have hi' : ¬ (i : Int) ≤ (a : Int) + (q : Int) * 2 + 1 := by omega
      go_wp2_with fail
      go_end0
      exact ⟨e, rfl, hW, HE, hG⟩
end Go.Proofs.Ythpgnlmkgllonaa
