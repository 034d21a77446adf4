/- The library's stable sort walked, at every length: over any row, any order that is read in the world as it stands, any exchange of two places. No condition. -/
import Derived.Test.YtdmeinfdldiegaaBase
import Derived.Test.YtdmeinfdldiegaaStableMath
import Derived.IntWalk
import Derived.Shelf.Lay
namespace Go.Proofs.Ytdmeinfdldiegaa
open Go.RowKit Go.PlainAid Go.Shelf
open SB
set_option maxRecDepth 100000
set_option linter.unusedVariables false
variable {α : Type}
/-- A closure that compares, a function that exchanges, and what the row looks like. -/
structure SEnv (g sf : Nat) (lb sb : Array Value) (lt : α → α → Bool) (n row : Nat) (St : World → (Nat → α) → Prop) : Prop where
  keep : ∀ {w w' : World} {d : Nat → α}, St w d → Below w.heap.size w w' → St w' d
  lt_ : ∀ {w : World} {d : Nat → α}, St w d → row < w.heap.size
  enter : ∀ args w, (callFunc g args).run Try.prog w = .ok (.enter g args) w
  less : ∀ {w : World} {d : Nat → α} (i j : Nat) (x y : Int), x = (i : Int) → y = (j : Int) → St w d → i < n → j < n → Calls Try.prog g (#[.int .i64 x, .int .i64 y] ++ lb) w fun e w' => e = .returned (.bool (lt (d i) (d j))) ∧ Below w.heap.size w w'
  swap : ∀ {w : World} {d : Nat → α} (i j : Nat) (x y : Int), x = (i : Int) → y = (j : Int) → St w d → i < n → j < n → ∃ w', (callFunc sf (#[.int .i64 x, .int .i64 y] ++ sb)).run Try.prog w = .ok (.value (.tuple #[])) w' ∧ St w' (swp d i j) ∧ w.grownBy w' (some row)
theorem gr_refl (w : World) (row : Nat) : w.grownBy w (some row) := World.grownBy.refl _ _
theorem gr_below {w a b : World} {row : Option Nat} (h : w.grownBy a row) (g : Below a.heap.size a b) : w.grownBy b row := ⟨g.os.trans h.os, g.tape.trans h.tape, g.output.trans h.output, Nat.le_trans h.size g.size, fun i hi hne => (g.block i (Nat.lt_of_lt_of_le hi h.size)).trans (h.block i hi hne)⟩
theorem gr_trans {w a b : World} {row : Option Nat} (h : w.grownBy a row) (g : a.grownBy b row) : w.grownBy b row := ⟨g.os.trans h.os, g.tape.trans h.tape, g.output.trans h.output, Nat.le_trans h.size g.size, fun i hi hne => (g.block i (Nat.lt_of_lt_of_le hi h.size) hne).trans (h.block i hi hne)⟩
theorem gr_cell {w w' : World} {row : Nat} (h : w.grownBy w' (some row)) {p : Addr} {v : Value} (hc : w.cell? p = some v) (hr : p.block ≠ row) : w'.cell? p = some v := by
  have hl : p.block < w.heap.size := by
    rcases Nat.lt_or_ge p.block w.heap.size with hlt | hge
    · exact hlt
    · unfold World.cell? at hc; rw [Array.getElem?_eq_none hge] at hc; simp at hc
  exact (World.cell?_of_block (w := w) (h.block p.block hl (by intro e; injection e with e; exact hr e))).trans hc
def SPostS (row : Nat) (St : World → (Nat → α) → Prop) (R : (Nat → α) → Prop) (w : World) (e : Ending) (w' : World) : Prop := ∃ d', e = .returned (.tuple #[]) ∧ St w' d' ∧ Hid (R d') ∧ w.grownBy w' (some row)
set_option maxHeartbeats 1600000 in
theorem swapRange_any {g sf : Nat} {lb sb : Array Value} {lt : α → α → Bool} {n row : Nat} {St : World → (Nat → α) → Prop} (E : SEnv g sf lb sb lt n row St) (a b m : Nat) (x y z : Int) (hx : x = (a : Int)) (hy : y = (b : Int)) (hz : z = (m : Int)) (w : World) (d : Nat → α) (h : St w d) (h1 : a + m ≤ b) (h2 : b + m ≤ n) (hn : n < 1099511627776) :
    Calls Try.prog 79 #[.agg #[.func (.func g) #[] lb, .func (.func sf) #[] sb], .int .i64 x, .int .i64 y, .int .i64 z] w (SPostS row St (fun d' => d' = SwR a b m d) w) := by
  have hrow := E.lt_ h
  have b0 : Below w.heap.size w (w.alloc (.cells #[.func (.func g) #[] lb, .func (.func sf) #[] sb] 86)) := (Below.refl _ _).alloc (Nat.le_refl _) _
  have hS := E.keep h b0
  have hR := Lib.hid E
  obtain ⟨x0, x1⟩ : 0 ≤ x ∧ x ≤ 1099511627776 := by omega
  obtain ⟨y0, y1⟩ : 0 ≤ y ∧ y ≤ 1099511627776 := by omega
  have HX := Lib.hid hx; have HY := Lib.hid hy; have HZ := Lib.hid hz
  clear hx hy
  subst hz
  go_enter Try.func79, Try.ntmps79
  go_wp2_with fail
  go_loopw [8] (fun iv wr => ∃ (i : Nat) (e : Nat → α), i ≤ m ∧ iv = .int .i64 i ∧ St wr e ∧ Hid (e = SwR a b i d) ∧ wr.cell? ⟨w.heap.size, 1, none⟩ = some (.func (.func sf) #[] sb) ∧ w.grownBy wr (some row)) (fun iv _ => m - (intOf iv).toNat)
  case atStart => exact ⟨0, d, Nat.zero_le _, rfl, hS, Lib.hid (SwR.zero a b d).symm, by simp [go_sem], gr_below (gr_refl w row) b0⟩
  case round =>
    obtain ⟨i, e, hi, rfl, hW, HE, c1, hG⟩ := hrel
    by_cases hlt : i < m
    · have hlt' : (i : Int) < (m : Int) := by omega
      have xs : 0 ≤ x + (i : Int) := by omega
      obtain ⟨w2, hrun, hS2, hg2⟩ := hR.out.swap (a + i) (b + i) (x + (i : Int)) (y + (i : Int)) (by rw [HX.out]; omega) (by rw [HY.out]; omega) hW (by omega) (by omega)
      have hc2 := gr_cell hg2 c1 (by simp only; omega)
      have e2 : swp e (a + i) (b + i) = SwR a b (i + 1) d := by rw [HE.out]; exact SwR.succ d (by omega)
      have HE2 := Lib.hid e2; clear e2
      have HG2 := Lib.hid (gr_trans hG hg2)
      go_wp2_with fail
      go_roundw
      case rel => exact ⟨i + 1, _, by omega, by go_num, hS2, HE2, hc2, HG2.out⟩
      case measure => simp [intOf]; omega
    · obtain rfl : i = m := by omega
      have hlt' : ¬ (i : Int) < (i : Int) := by omega
      go_wp2_with fail
      go_end0
      exact ⟨e, rfl, hW, HE, hG⟩
set_option maxHeartbeats 1600000 in
theorem rotate_any {g sf : Nat} {lb sb : Array Value} {lt : α → α → Bool} {n row : Nat} {St : World → (Nat → α) → Prop} (E : SEnv g sf lb sb lt n row St) (a m b : Nat) (x y z : Int) (hx : x = (a : Int)) (hy : y = (m : Int)) (hz : z = (b : Int)) (w : World) (d : Nat → α) (h : St w d) (h1 : a < m) (h2 : m < b) (h3 : b ≤ n) (hn : n < 1099511627776) :
    Calls Try.prog 78 #[.agg #[.func (.func g) #[] lb, .func (.func sf) #[] sb], .int .i64 x, .int .i64 y, .int .i64 z] w (SPostS row St (fun d' => d' = Rot a m b d) w) := by
  have hrow := E.lt_ h
  have b0 : Below w.heap.size w (w.alloc (.cells #[.func (.func g) #[] lb, .func (.func sf) #[] sb] 86)) := (Below.refl _ _).alloc (Nat.le_refl _) _
  have hS := E.keep h b0
  have hR := Lib.hid E
  subst hx hy hz
  go_enter Try.func78, Try.ntmps78
  go_wp2_with fail
  go_loopw [8, 9] (fun iv jv wr => ∃ (i j : Nat) (e : Nat → α), 0 < i ∧ 0 < j ∧ a + i ≤ m ∧ m + j ≤ b ∧ iv = .int .i64 i ∧ jv = .int .i64 j ∧ St wr e ∧ Hid (Rot (m - i) m (m + j) e = Rot a m b d) ∧ wr.cell? ⟨w.heap.size, 0, none⟩ = some (.func (.func g) #[] lb) ∧ wr.cell? ⟨w.heap.size, 1, none⟩ = some (.func (.func sf) #[] sb) ∧ w.grownBy wr (some row)) (fun iv jv _ => (intOf iv).toNat + (intOf jv).toNat)
  case atStart => exact ⟨m - a, b - m, d, by omega, by omega, by omega, by omega, by congr 1; omega, by congr 1; omega, hS, Lib.hid (by rw [show m - (m - a) = a by omega, show m + (b - m) = b by omega]), by simp [go_sem], by simp [go_sem], gr_below (gr_refl w row) b0⟩
  case round =>
    obtain ⟨i, j, e, i0, j0, i1, j1, rfl, rfl, hW, HE, c0, c1, hG⟩ := hrel
    rcases Nat.lt_trichotomy i j with hl | he | hg
    · have t1 : ((i : Int) != (j : Int)) = true := by simp; omega
      have t2 : ¬ (j : Int) < (i : Int) := by omega
      have hr := Rot.right (m := m) (i := i) (j := j) e (by omega) hl
      rw [HE.out] at hr
      have HR := Lib.hid hr; clear hr
      go_wp2_with fail
      refine (swapRange_any hR.out (m - i) (m + (j - i)) i _ _ _ (by omega) (by omega) rfl _ e hW (by omega) (by omega) hn).mono ?_
      rintro e1 w2 ⟨d2, rfl, hS2, HD, hg2⟩
      have hc0 := gr_cell hg2 c0 (by simp only; omega)
      have hc1 := gr_cell hg2 c1 (by simp only; omega)
      have HG2 := Lib.hid (gr_trans hG hg2)
      clear c0 c1 hg2 hG hW HE
      go_wp2_with fail
      go_roundw
      case rel => exact ⟨i, j - i, d2, i0, by omega, i1, by omega, rfl, by congr 1; omega, hS2, Lib.hid (by rw [HD.out]; exact HR.out), hc0, hc1, HG2.out⟩
      case measure => simp [intOf]; omega
    · subst he
      have t1 : ((i : Int) != (i : Int)) = false := by simp
      have hr := Rot.same (m := m) (i := i) e (by omega)
      rw [HE.out] at hr
      have HR := Lib.hid hr; clear hr
      go_wp2_with fail
      refine (swapRange_any hR.out (m - i) m i _ _ _ (by omega) (by omega) rfl _ e hW (by omega) (by omega) hn).mono ?_
      rintro e1 w2 ⟨d2, rfl, hS2, HD, hg2⟩
      have HG2 := Lib.hid (gr_trans hG hg2)
      go_wp2_with fail
      go_end0
      exact ⟨d2, rfl, hS2, Lib.hid (by rw [HD.out]; exact HR.out), HG2.out⟩
    · have t1 : ((i : Int) != (j : Int)) = true := by simp; omega
      have t2 : (j : Int) < (i : Int) := by omega
      have hr := Rot.left (m := m) (i := i) (j := j) e (by omega) hg
      rw [HE.out] at hr
      have HR := Lib.hid hr; clear hr
      go_wp2_with fail
      refine (swapRange_any hR.out (m - i) m j _ _ _ (by omega) (by omega) rfl _ e hW (by omega) (by omega) hn).mono ?_
      rintro e1 w2 ⟨d2, rfl, hS2, HD, hg2⟩
      have hc0 := gr_cell hg2 c0 (by simp only; omega)
      have hc1 := gr_cell hg2 c1 (by simp only; omega)
      have HG2 := Lib.hid (gr_trans hG hg2)
      clear c0 c1 hg2 hG hW HE
      go_wp2_with fail
      go_roundw
      case rel => exact ⟨i - j, j, d2, by omega, j0, by omega, j1, by congr 1; omega, rfl, hS2, Lib.hid (by rw [HD.out]; exact HR.out), hc0, hc1, HG2.out⟩
      case measure => simp [intOf]; omega
set_option maxHeartbeats 1600000 in
theorem insertion_any {g sf : Nat} {lb sb : Array Value} {lt : α → α → Bool} {n row : Nat} {St : World → (Nat → α) → Prop} (E : SEnv g sf lb sb lt n row St) (O : Ord lt) (a b : Nat) (x y : Int) (hx : x = (a : Int)) (hy : y = (b : Int)) (w : World) (d : Nat → α) (h : St w d) (h1 : a ≤ b) (h2 : b ≤ n) (hn : n < 1099511627776) :
    Calls Try.prog 74 #[.agg #[.func (.func g) #[] lb, .func (.func sf) #[] sb], .int .i64 x, .int .i64 y] w (SPostS row St (fun d' => Srt lt d' a b ∧ Mv a b d d') w) := by
  have hrow := E.lt_ h
  have b0 : Below w.heap.size w (w.alloc (.cells #[.func (.func g) #[] lb, .func (.func sf) #[] sb] 86)) := (Below.refl _ _).alloc (Nat.le_refl _) _
  have hS := E.keep h b0
  have hR := Lib.hid E
  have HO := Lib.hid O
  have eg := E.enter
  subst hx hy
  go_enter Try.func74, Try.ntmps74
  go_wp2_with fail
  go_loopw [6, 7] (fun iv _ wr => ∃ (i : Nat) (e : Nat → α), a < i ∧ i ≤ b + 1 ∧ iv = .int .i64 i ∧ St wr e ∧ Hid (Srt lt e a i ∧ Mv a b d e) ∧ wr.cell? ⟨w.heap.size, 0, none⟩ = some (.func (.func g) #[] lb) ∧ wr.cell? ⟨w.heap.size, 1, none⟩ = some (.func (.func sf) #[] sb) ∧ w.grownBy wr (some row)) (fun iv _ _ => b + 1 - (intOf iv).toNat)
  case atStart => exact ⟨a + 1, d, by omega, by omega, by go_num, hS, Lib.hid ⟨Srt.one lt d (Nat.le_refl _), Mv.refl _ _ _⟩, by simp [go_sem], by simp [go_sem], gr_below (gr_refl w row) b0⟩
  case round =>
    obtain ⟨i, e, i0, i1, rfl, hW, HE, c0, c1, hG⟩ := hrel
    by_cases hlt : i < b
    · have hlt' : (i : Int) < (b : Int) := by omega
      obtain ⟨wo, rfl⟩ : ∃ wo : World, wo = wr := ⟨_, rfl⟩
      go_wp2_with fail
      go_loopw [7] (fun jv wr => ∃ (j : Nat) (f : Nat → α), a ≤ j ∧ j ≤ i ∧ jv = .int .i64 j ∧ St wr f ∧ Hid (f = Dn j i e) ∧ Hid (j < i → lt (e i) (e j) = true) ∧ wr.cell? ⟨w.heap.size, 0, none⟩ = some (.func (.func g) #[] lb) ∧ wr.cell? ⟨w.heap.size, 1, none⟩ = some (.func (.func sf) #[] sb) ∧ w.grownBy wr (some row)) (fun jv _ => (intOf jv).toNat)
      case atStart => exact ⟨i, e, by omega, Nat.le_refl _, rfl, hW, Lib.hid (Dn.zero i e).symm, Lib.hid (fun h => by omega), c0, c1, hG⟩
      case round =>
        clear c0 c1 hG hW
        obtain ⟨j, f, j0, j1, rfl, hW, HF, HJ, c0, c1, hG⟩ := hrel
        have done : (a < j → lt (e i) (e (j - 1)) = false) → Hid (Srt lt f a (i + 1) ∧ Mv a b d f) := fun hl => Lib.hid (by
          rw [HF.out]
          exact ⟨srt_ins HO.out HE.out.1 j0 j1 hl HJ.out, HE.out.2.trans (Dn.mv e j1 j0 hlt)⟩)
        have DONE := Lib.hid done; clear done
        by_cases hja : a < j
        · have hja' : (a : Int) < (j : Int) := by omega
          obtain ⟨x, hx⟩ : ∃ x : Int, x = (j : Int) - 1 := ⟨_, rfl⟩
          have hl := hR.out.less (w := wr) j (j - 1) (j : Int) x rfl (by omega) hW (by omega) (by omega)
          rw [show lt (f j) (f (j - 1)) = lt (e i) (e (j - 1)) by rw [HF.out, Dn.top, Dn.under _ (by omega)]] at hl
          rw [hx] at hl
          clear hx x
          cases hlv : lt (e i) (e (j - 1))
          · rw [hlv] at hl
            have D := DONE.out (fun _ => hlv)
            clear DONE
            go_wp2_with (go_at_fn g; refine hl.mono ?_; rintro e' w' ⟨rfl, hb⟩)
            go_roundw
            case rel => exact ⟨i + 1, f, by omega, by omega, by go_num, hR.out.keep hW hb, D, cell_keep hb c0, cell_keep hb c1, gr_below hG hb⟩
            case measure => simp [intOf]; omega
          · rw [hlv] at hl
            have HLV := Lib.hid hlv; clear hlv DONE
            have hsw := fun (w' : World) (hb : Below wr.heap.size wr w') => hR.out.swap (w := w') j (j - 1) (j : Int) ((j : Int) - 1) rfl (by omega) (hR.out.keep hW hb) (by omega) (by omega)
            have HSW := Lib.hid hsw; clear hsw
            go_wp2_with (go_at_fn g; refine hl.mono ?_; rintro e' w' ⟨rfl, hb⟩; have d0 := cell_keep hb c0; have d1 := cell_keep hb c1; obtain ⟨w2, hrun, hS2, hg2⟩ := HSW.out w' hb)
            go_roundw
            case rel => exact ⟨j - 1, _, by omega, by omega, by congr 1; omega, hS2, Lib.hid (by rw [HF.out]; have := Dn.succ (k := j - 1) (m := i) e (by omega); rwa [show j - 1 + 1 = j by omega] at this), Lib.hid (fun _ => HLV.out), gr_cell hg2 d0 (by simp only; omega), gr_cell hg2 d1 (by simp only; omega), gr_trans (gr_below hG hb) hg2⟩
            case measure => simp [intOf]; omega
        · have hja' : ¬ (a : Int) < (j : Int) := by omega
          have D := DONE.out (fun h => by omega)
          clear DONE
          go_wp2_with fail
          go_roundw
          case rel => exact ⟨i + 1, f, by omega, by omega, by go_num, hW, D, c0, c1, hG⟩
          case measure => simp [intOf]; omega
    · have hlt' : ¬ (i : Int) < (b : Int) := by omega
      go_wp2_with fail
      go_end0
      exact ⟨e, rfl, hW, Lib.hid ⟨HE.out.1.sub (Nat.le_refl _) (by omega), HE.out.2⟩, hG⟩
end Go.Proofs.Ytdmeinfdldiegaa
