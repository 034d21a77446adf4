/- The library's sort walked over any row and any order: what it asks of its data; insertion, heaps, a range turned round. No condition. -/
import Derived.Test.YthpgnlmkgllonaaStableW
import Derived.Test.YthpgnlmkgllonaaPdqMath
import Derived.IntWalk
namespace Go.Proofs.Ythpgnlmkgllonaa
open Go.RowKit Go.PlainAid
open SB
set_option maxRecDepth 100000
set_option linter.unusedVariables false
variable {α : Type}
/-- The data of a sort: a comparison that may lay blocks, an exchange that turns one block alone, both found by their names. -/
structure REnv (bs B : Nat) (rl rs : Value) (lt : α → α → Bool) (n row : Nat) (St : World → (Nat → α) → Prop) : Prop where
  base : ∀ {w : World} {d : Nat → α}, St w d → bs ≤ w.heap.size ∧ row < bs
  far : ∀ {w w' : World} {d : Nat → α} {b : Nat}, St w d → bs ≤ b → w.grownBy w' (some b) → St w' d
  keep : ∀ {w w' : World} {d : Nat → α}, St w d → Below w.heap.size w w' → St w' d
  lt_ : ∀ {w : World} {d : Nat → α}, St w d → row < w.heap.size
  mless : ∀ {w : World} {d : Nat → α}, St w d → Sem.run Try.prog (method 177 36 (.pointer (some ⟨B, 0, none⟩)) "Less") w = .ok (51, rl) w
  mswap : ∀ {w : World} {d : Nat → α}, St w d → Sem.run Try.prog (method 177 36 (.pointer (some ⟨B, 0, none⟩)) "Swap") w = .ok (50, rs) w
  less : ∀ {w : World} {d : Nat → α} (i j : Nat) (x y : Int), x = (i : Int) → y = (j : Int) → St w d → i < n → j < n → Calls Try.prog 51 #[rl, .int .i64 x, .int .i64 y] w fun e w' => e = .returned (.bool (lt (d i) (d j))) ∧ Below w.heap.size w w'
  swap : ∀ {w : World} {d : Nat → α} (i j : Nat) (x y : Int), x = (i : Int) → y = (j : Int) → St w d → i < n → j < n → Calls Try.prog 50 #[rs, .int .i64 x, .int .i64 y] w fun e w' => e = .returned (.tuple #[]) ∧ St w' (swp d i j) ∧ w.grownBy w' (some row)

set_option maxHeartbeats 1600000 in
theorem insertion_r {bs B : Nat} {rl rs : Value} {lt : α → α → Bool} {n row : Nat} {St : World → (Nat → α) → Prop} (E : REnv bs B rl rs lt n row St) (O : Ord lt) (irr : ∀ x, lt x x = false) (a b : Nat) (x y : Int) (hx : x = (a : Int)) (hy : y = (b : Int)) (w : World) (d : Nat → α) (h : St w d) (h1 : a ≤ b) (h2 : b ≤ n) (hn : n < 1099511627776) :
    Calls Try.prog 17 #[.iface 36 (.pointer (some ⟨B, 0, none⟩)), .int .i64 x, .int .i64 y] w (SPostS row St (fun d' => Srt lt d' a b ∧ Mv a b d d') w) := by
  have hR := Lib.hid E
  have HO := Lib.hid O
  subst hx hy
  go_enter Try.func17, Try.ntmps17
  go_wp2_with fail
  go_loopw [6, 7] (fun iv _ wr => ∃ (i : Nat) (e : Nat → α), a < i ∧ i ≤ b + 1 ∧ iv = .int .i64 i ∧ St wr e ∧ Hid (Srt lt e a i ∧ Mv a b d e) ∧ w.grownBy wr (some row)) (fun iv _ _ => b + 1 - (intOf iv).toNat)
  case atStart => exact ⟨a + 1, d, by omega, by omega, by go_num, h, Lib.hid ⟨Srt.one lt d (Nat.le_refl _), Mv.refl _ _ _⟩, gr_refl w row⟩
  case round =>
    obtain ⟨i, e, i0, i1, rfl, hW, HE, hG⟩ := hrel
    by_cases hlt : i < b
    · have hlt' : (i : Int) < (b : Int) := by omega
      obtain ⟨wo, rfl⟩ : ∃ wo : World, wo = wr := ⟨_, rfl⟩
      go_wp2_with fail
      go_loopw [7] (fun jv wr => ∃ (j : Nat) (f : Nat → α), a ≤ j ∧ j ≤ i ∧ jv = .int .i64 j ∧ St wr f ∧ Hid (f = Dn j i e) ∧ Hid (j < i → lt (e i) (e j) = true) ∧ w.grownBy wr (some row)) (fun jv _ => (intOf jv).toNat)
      case atStart => exact ⟨i, e, by omega, Nat.le_refl _, rfl, hW, Lib.hid (Dn.zero i e).symm, Lib.hid (fun h => by omega), hG⟩
      case round =>
        clear hG hW
        obtain ⟨j, f, j0, j1, rfl, hW, HF, HJ, hG⟩ := hrel
        have done : (a < j → lt (e i) (e (j - 1)) = false) → Hid (Srt lt f a (i + 1) ∧ Mv a b d f) := fun hl => Lib.hid (by
          rw [HF.out]
          exact ⟨srt_ins HO.out HE.out.1 j0 j1 hl HJ.out, HE.out.2.trans (Dn.mv e j1 j0 hlt)⟩)
        have DONE := Lib.hid done; clear done
        by_cases hja : a < j
        · have hja' : (a : Int) < (j : Int) := by omega
          have ml := hR.out.mless hW
          obtain ⟨x, hx⟩ : ∃ x : Int, x = (j : Int) - 1 := ⟨_, rfl⟩
          have hl := hR.out.less (w := wr) j (j - 1) (j : Int) x rfl (by omega) hW (by omega) (by omega)
          rw [show lt (f j) (f (j - 1)) = lt (e i) (e (j - 1)) by rw [HF.out, Dn.top, Dn.under _ (by omega)]] at hl
          rw [hx] at hl
          clear hx x
          cases hlv : lt (e i) (e (j - 1))
          · rw [hlv] at hl
            have D := DONE.out (fun _ => hlv)
            clear DONE
            go_wp2_with fail
            refine hl.mono ?_
            rintro e' w' ⟨rfl, hb⟩
            clear hl ml
            go_wp2_with fail
            go_roundw
            case rel => exact ⟨i + 1, f, by omega, by omega, by go_num, hR.out.keep hW hb, D, gr_below hG hb⟩
            case measure => simp [intOf]; omega
          · rw [hlv] at hl
            have HLV := Lib.hid hlv; clear hlv DONE
            go_wp2_with fail
            refine hl.mono ?_
            rintro e' w' ⟨rfl, hb⟩
            clear hl ml
            have hW2 := hR.out.keep hW hb
            have ms := hR.out.mswap hW2
            have hsw := hR.out.swap (w := w') j (j - 1) (j : Int) ((j : Int) - 1) rfl (by omega) hW2 (by omega) (by omega)
            go_wp2_with fail
            refine hsw.mono ?_
            rintro e' w2 ⟨rfl, hS2, hg2⟩
            clear hsw ms
            go_wp2_with fail
            go_roundw
            case rel => exact ⟨j - 1, _, by omega, by omega, by congr 1; omega, hS2, Lib.hid (by rw [HF.out]; have := Dn.succ (k := j - 1) (m := i) e (by omega); rwa [show j - 1 + 1 = j by omega] at this), Lib.hid (fun _ => HLV.out), gr_trans (gr_below hG hb) hg2⟩
            case measure => simp [intOf]; omega
        · have hja' : ¬ (a : Int) < (j : Int) := by omega
          have D := DONE.out (fun h => by omega)
          clear DONE
          go_wp2_with fail
          go_roundw
          case rel => exact ⟨i + 1, f, by omega, by omega, by go_num, hW, D, hG⟩
          case measure => simp [intOf]; omega
    · have hlt' : ¬ (i : Int) < (b : Int) := by omega
      go_wp2_with fail
      go_end0
      exact ⟨e, rfl, hW, Lib.hid ⟨HE.out.1.sub (Nat.le_refl _) (by omega), HE.out.2⟩, hG⟩
set_option maxHeartbeats 1600000 in
theorem reverse_r {bs B : Nat} {rl rs : Value} {lt : α → α → Bool} {n row : Nat} {St : World → (Nat → α) → Prop} (E : REnv bs B rl rs lt n row St) (a b : Nat) (x y : Int) (hx : x = (a : Int)) (hy : y = (b : Int)) (w : World) (d : Nat → α) (h : St w d) (h1 : a < b) (h2 : b ≤ n) (hn : n < 1099511627776) :
    Calls Try.prog 21 #[.iface 36 (.pointer (some ⟨B, 0, none⟩)), .int .i64 x, .int .i64 y] w (SPostS row St (fun d' => Mv a b d d') w) := by
  have hR := Lib.hid E
  subst hx hy
  go_enter Try.func21, Try.ntmps21
  go_wp2_with fail
  go_loopw [6, 7] (fun iv jv wr => ∃ (i j : Nat) (e : Nat → α), a ≤ i ∧ j < b ∧ i ≤ b ∧ a ≤ j + 1 ∧ iv = .int .i64 i ∧ jv = .int .i64 j ∧ St wr e ∧ Hid (Mv a b d e) ∧ w.grownBy wr (some row)) (fun _ jv _ => (intOf jv).toNat)
  case atStart => exact ⟨a, b - 1, d, Nat.le_refl _, by omega, by omega, by omega, rfl, by congr 1; omega, h, Lib.hid (Mv.refl _ _ _), gr_refl w row⟩
  case round =>
    obtain ⟨i, j, e, i0, j0, i1, j1, rfl, rfl, hW, HE, hG⟩ := hrel
    by_cases hij : i < j
    · have hij' : (i : Int) < (j : Int) := by omega
      have ms := hR.out.mswap hW
      have hsw := hR.out.swap (w := wr) i j (i : Int) (j : Int) rfl rfl hW (by omega) (by omega)
      go_wp2_with fail
      refine hsw.mono ?_
      rintro e' w2 ⟨rfl, hS2, hg2⟩
      clear hsw ms
      go_wp2_with fail
      go_roundw
      case rel => exact ⟨i + 1, j - 1, _, by omega, by omega, by omega, by omega, by go_num, by congr 1; omega, hS2, Lib.hid (HE.out.trans (Mv.swp _ ⟨by omega, by omega⟩ ⟨by omega, by omega⟩)), gr_trans hG hg2⟩
      case measure => simp [intOf]; omega
    · have hij' : ¬ (i : Int) < (j : Int) := by omega
      go_wp2_with fail
      go_end0
      exact ⟨e, rfl, hW, HE, hG⟩
theorem child_last {lt : α → α → Bool} (O : Ord lt) {d : Nat → α} {f hi r c : Nat} (hc : ∀ x, (x = 2 * r + 1 ∨ x = 2 * r + 2) → x < hi → x ≠ c → lt (d (f + c)) (d (f + x)) = false) (h : lt (d (f + r)) (d (f + c)) = false) : ∀ x, (x = 2 * r + 1 ∨ x = 2 * r + 2) → x < hi → lt (d (f + r)) (d (f + x)) = false := fun x hx hi' => by
  by_cases e : x = c
  · subst e; exact h
  · exact O.trans _ _ _ (hc x hx hi' e) h
set_option maxHeartbeats 3200000 in
theorem sift_r {bs B : Nat} {rl rs : Value} {lt : α → α → Bool} {n row : Nat} {St : World → (Nat → α) → Prop} (E : REnv bs B rl rs lt n row St) (O : Ord lt) (irr : ∀ x, lt x x = false) (f lo hi : Nat) (x y z : Int) (hx : x = (lo : Int)) (hy : y = (hi : Int)) (hz : z = (f : Int)) (w : World) (d : Nat → α) (h : St w d) (h1 : lo ≤ n) (h2 : f + hi ≤ n) (hn : n < 1099511627776) (HB : Hid (HeapBut lt d f lo hi lo)) :
    Calls Try.prog 25 #[.iface 36 (.pointer (some ⟨B, 0, none⟩)), .int .i64 x, .int .i64 y, .int .i64 z] w (SPostS row St (fun d' => Heap lt d' f lo hi ∧ Mv f (f + hi) d d') w) := by
  have hR := Lib.hid E
  have HO := Lib.hid O
  subst hx hy hz
  go_enter Try.func25, Try.ntmps25
  go_wp2_with fail
  go_loopw [8, 9] (fun rv _ wr => ∃ (r : Nat) (e : Nat → α), lo ≤ r ∧ r ≤ n ∧ rv = .int .i64 r ∧ St wr e ∧ Hid (HeapBut lt e f lo hi r ∧ Mv f (f + hi) d e) ∧ w.grownBy wr (some row)) (fun rv _ _ => n - (intOf rv).toNat)
  case atStart => exact ⟨lo, d, Nat.le_refl _, h1, rfl, h, Lib.hid ⟨HB.out, Mv.refl _ _ _⟩, gr_refl w row⟩
  case round =>
    obtain ⟨r, e, r0, r1, rfl, hW, HE, hG⟩ := hrel
    by_cases hc : hi ≤ 2 * r + 1
    · have hc' : (hi : Int) ≤ 2 * (r : Int) + 1 := by omega
      go_wp2_with fail
      go_end0
      exact ⟨e, rfl, hW, Lib.hid ⟨HE.out.1.done fun c hc hi' => by omega, HE.out.2⟩, hG⟩
    · have hc' : ¬ (hi : Int) ≤ 2 * (r : Int) + 1 := by omega
      by_cases hc2 : 2 * r + 2 < hi
      · have hc2' : 2 * (r : Int) + 1 + 1 < (hi : Int) := by omega
        have ml := hR.out.mless hW
        have hl := hR.out.less (w := wr) (f + (2 * r + 1)) (f + (2 * r + 2)) ((f : Int) + (2 * (r : Int) + 1)) ((f : Int) + (2 * (r : Int) + 1) + 1) (by omega) (by omega) hW (by omega) (by omega)
        cases hlv : lt (e (f + (2 * r + 1))) (e (f + (2 * r + 2)))
        · rw [hlv] at hl
          have HGR : Hid (∀ x, (x = 2 * r + 1 ∨ x = 2 * r + 2) → x < hi → x ≠ 2 * r + 1 → lt (e (f + (2 * r + 1))) (e (f + x)) = false) := Lib.hid (fun x hx hi' hne => by
            obtain rfl : x = 2 * r + 2 := by omega
            exact hlv)
          clear hlv
          go_wp2_with fail
          refine hl.mono ?_
          rintro e' w7 ⟨rfl, hb7⟩
          clear hl ml
          have hW7 := hR.out.keep hW hb7
          have hG7 := gr_below hG hb7
          clear hb7 hG hW
          have ml2 := hR.out.mless hW7
          have hl2 := hR.out.less (w := w7) (f + r) (f + (2 * r + 1)) ((f : Int) + (r : Int)) ((f : Int) + (2 * (r : Int) + 1)) (by omega) (by omega) hW7 (by omega) (by omega)
          cases hlv2 : lt (e (f + r)) (e (f + (2 * r + 1)))
          · rw [hlv2] at hl2
            have FIN := Lib.hid (show Heap lt e f lo hi ∧ Mv f (f + hi) d e from ⟨HE.out.1.done (child_last HO.out HGR.out hlv2), HE.out.2⟩)
            go_wp2_with fail
            refine hl2.mono ?_
            rintro e' w8 ⟨rfl, hb8⟩
            clear hl2 ml2
            go_wp2_with fail
            go_end0
            exact ⟨e, rfl, hR.out.keep hW7 hb8, FIN, gr_below hG7 hb8⟩
          · rw [hlv2] at hl2
            have NEW := Lib.hid (show HeapBut lt (swp e (f + r) (f + (2 * r + 1))) f lo hi (2 * r + 1) ∧ Mv f (f + hi) d (swp e (f + r) (f + (2 * r + 1))) from ⟨HE.out.1.down HO.out r0 (by omega) (by omega) HGR.out hlv2, HE.out.2.trans (swp_mv_in (by omega) (by omega))⟩)
            go_wp2_with fail
            refine hl2.mono ?_
            rintro e' w8 ⟨rfl, hb8⟩
            clear hl2 ml2
            have hW8 := hR.out.keep hW7 hb8
            have ms := hR.out.mswap hW8
            have hsw := hR.out.swap (w := w8) (f + r) (f + (2 * r + 1)) ((f : Int) + (r : Int)) ((f : Int) + (2 * (r : Int) + 1)) (by omega) (by omega) hW8 (by omega) (by omega)
            go_wp2_with fail
            refine hsw.mono ?_
            rintro e' w9 ⟨rfl, hS9, hg9⟩
            clear hsw ms
            go_wp2_with fail
            go_roundw
            case rel => exact ⟨2 * r + 1, _, by omega, by omega, by congr 1 <;> omega, hS9, NEW, gr_trans (gr_below hG7 hb8) hg9⟩
            case measure => simp [intOf]; omega
        · rw [hlv] at hl
          have HGR : Hid (∀ x, (x = 2 * r + 1 ∨ x = 2 * r + 2) → x < hi → x ≠ 2 * r + 2 → lt (e (f + (2 * r + 2))) (e (f + x)) = false) := Lib.hid (fun x hx hi' hne => by
            obtain rfl : x = 2 * r + 1 := by omega
            exact HO.out.asym _ _ hlv)
          clear hlv
          go_wp2_with fail
          refine hl.mono ?_
          rintro e' w7 ⟨rfl, hb7⟩
          clear hl ml
          have hW7 := hR.out.keep hW hb7
          have hG7 := gr_below hG hb7
          clear hb7 hG hW
          have ml2 := hR.out.mless hW7
          have hl2 := hR.out.less (w := w7) (f + r) (f + (2 * r + 2)) ((f : Int) + (r : Int)) ((f : Int) + (2 * (r : Int) + 1 + 1)) (by omega) (by omega) hW7 (by omega) (by omega)
          cases hlv2 : lt (e (f + r)) (e (f + (2 * r + 2)))
          · rw [hlv2] at hl2
            have FIN := Lib.hid (show Heap lt e f lo hi ∧ Mv f (f + hi) d e from ⟨HE.out.1.done (child_last HO.out HGR.out hlv2), HE.out.2⟩)
            go_wp2_with fail
            refine hl2.mono ?_
            rintro e' w8 ⟨rfl, hb8⟩
            clear hl2 ml2
            go_wp2_with fail
            go_end0
            exact ⟨e, rfl, hR.out.keep hW7 hb8, FIN, gr_below hG7 hb8⟩
          · rw [hlv2] at hl2
            have NEW := Lib.hid (show HeapBut lt (swp e (f + r) (f + (2 * r + 2))) f lo hi (2 * r + 2) ∧ Mv f (f + hi) d (swp e (f + r) (f + (2 * r + 2))) from ⟨HE.out.1.down HO.out r0 (by omega) (by omega) HGR.out hlv2, HE.out.2.trans (swp_mv_in (by omega) (by omega))⟩)
            go_wp2_with fail
            refine hl2.mono ?_
            rintro e' w8 ⟨rfl, hb8⟩
            clear hl2 ml2
            have hW8 := hR.out.keep hW7 hb8
            have ms := hR.out.mswap hW8
            have hsw := hR.out.swap (w := w8) (f + r) (f + (2 * r + 2)) ((f : Int) + (r : Int)) ((f : Int) + (2 * (r : Int) + 1 + 1)) (by omega) (by omega) hW8 (by omega) (by omega)
            go_wp2_with fail
            refine hsw.mono ?_
            rintro e' w9 ⟨rfl, hS9, hg9⟩
            clear hsw ms
            go_wp2_with fail
            go_roundw
            case rel => exact ⟨2 * r + 2, _, by omega, by omega, by congr 1 <;> omega, hS9, NEW, gr_trans (gr_below hG7 hb8) hg9⟩
            case measure => simp [intOf]; omega
      · have hc2' : ¬ 2 * (r : Int) + 1 + 1 < (hi : Int) := by omega
        have HGR : Hid (∀ x, (x = 2 * r + 1 ∨ x = 2 * r + 2) → x < hi → x ≠ 2 * r + 1 → lt (e (f + (2 * r + 1))) (e (f + x)) = false) := Lib.hid (fun x hx hi' hne => by omega)
        have ml2 := hR.out.mless hW
        have hl2 := hR.out.less (w := wr) (f + r) (f + (2 * r + 1)) ((f : Int) + (r : Int)) ((f : Int) + (2 * (r : Int) + 1)) (by omega) (by omega) hW (by omega) (by omega)
        cases hlv2 : lt (e (f + r)) (e (f + (2 * r + 1)))
        · rw [hlv2] at hl2
          have FIN := Lib.hid (show Heap lt e f lo hi ∧ Mv f (f + hi) d e from ⟨HE.out.1.done (child_last HO.out HGR.out hlv2), HE.out.2⟩)
          go_wp2_with fail
          refine hl2.mono ?_
          rintro e' w8 ⟨rfl, hb8⟩
          clear hl2 ml2
          go_wp2_with fail
          go_end0
          exact ⟨e, rfl, hR.out.keep hW hb8, FIN, gr_below hG hb8⟩
        · rw [hlv2] at hl2
          have NEW := Lib.hid (show HeapBut lt (swp e (f + r) (f + (2 * r + 1))) f lo hi (2 * r + 1) ∧ Mv f (f + hi) d (swp e (f + r) (f + (2 * r + 1))) from ⟨HE.out.1.down HO.out r0 (by omega) (by omega) HGR.out hlv2, HE.out.2.trans (swp_mv_in (by omega) (by omega))⟩)
          go_wp2_with fail
          refine hl2.mono ?_
          rintro e' w8 ⟨rfl, hb8⟩
          clear hl2 ml2
          have hW8 := hR.out.keep hW hb8
          have ms := hR.out.mswap hW8
          have hsw := hR.out.swap (w := w8) (f + r) (f + (2 * r + 1)) ((f : Int) + (r : Int)) ((f : Int) + (2 * (r : Int) + 1)) (by omega) (by omega) hW8 (by omega) (by omega)
          go_wp2_with fail
          refine hsw.mono ?_
          rintro e' w9 ⟨rfl, hS9, hg9⟩
          clear hsw ms
          go_wp2_with fail
          go_roundw
          case rel => exact ⟨2 * r + 1, _, by omega, by omega, by congr 1 <;> omega, hS9, NEW, gr_trans (gr_below hG hb8) hg9⟩
          case measure => simp [intOf]; omega
theorem heap_swap0 {lt : α → α → Bool} {d : Nat → α} {f i : Nat} (h : Heap lt d f 0 (i + 1)) : HeapBut lt (swp d (f + 0) (f + i)) f 0 i 0 := by
  refine ⟨fun p c hp hne hc hi => ?_, fun q c hq hr => by omega⟩
  have e1 : swp d (f + 0) (f + i) (f + p) = d (f + p) := by unfold swp; rw [if_neg (by omega), if_neg (by omega)]
  have e2 : swp d (f + 0) (f + i) (f + c) = d (f + c) := by unfold swp; rw [if_neg (by omega), if_neg (by omega)]
  rw [e1, e2]; exact h p c hp hc (by omega)
set_option maxHeartbeats 1600000 in
theorem heapSort_r {bs B : Nat} {rl rs : Value} {lt : α → α → Bool} {n row : Nat} {St : World → (Nat → α) → Prop} (E : REnv bs B rl rs lt n row St) (O : Ord lt) (irr : ∀ x, lt x x = false) (a b : Nat) (x y : Int) (hx : x = (a : Int)) (hy : y = (b : Int)) (w : World) (d : Nat → α) (h : St w d) (h1 : a < b) (h2 : b ≤ n) (hn : n < 1099511627776) :
    Calls Try.prog 18 #[.iface 36 (.pointer (some ⟨B, 0, none⟩)), .int .i64 x, .int .i64 y] w (SPostS row St (fun d' => Srt lt d' a b ∧ Mv a b d d') w) := by
  have hR := Lib.hid E
  have HO := Lib.hid O
  have HI := Lib.hid irr
  subst hx hy
  obtain ⟨m, hm⟩ : ∃ m : Nat, m = b - a := ⟨_, rfl⟩
  have hm1 : (b : Int) - (a : Int) = (m : Int) := by omega
  have hb : b = a + m := by omega
  have m0 : 0 < m := by omega
  have hq : ((m : Int) - 1).tdiv 2 = (((m - 1) / 2 : Nat) : Int) := by rw [Int.tdiv_eq_ediv_of_nonneg (by omega)]; omega
  have HBB := Lib.hid hb
  have hbn : a + m ≤ n := by omega
  have hbn2 : (b : Int) = (a : Int) + (m : Int) := by omega
  have HB2 := Lib.hid hbn2
  clear hm hb hbn2
  go_enter Try.func18, Try.ntmps18
  go_wp2_with fail
  go_loopw [9] (fun iv wr => ∃ (j : Nat) (e : Nat → α), j ≤ (m - 1) / 2 + 1 ∧ iv = .int .i64 ((j : Int) - 1) ∧ St wr e ∧ Hid (Heap lt e a j m ∧ Mv a (a + m) d e) ∧ w.grownBy wr (some row)) (fun iv _ => (intOf iv + 1).toNat)
  case atStart => exact ⟨(m - 1) / 2 + 1, d, Nat.le_refl _, by congr 1 <;> omega, h, Lib.hid ⟨Heap.from_half (by omega), Mv.refl _ _ _⟩, gr_refl w row⟩
  case round =>
    obtain ⟨j, e, j0, rfl, hW, HE, hG⟩ := hrel
    by_cases hj : 0 < j
    · obtain ⟨i, rfl⟩ : ∃ i, j = i + 1 := ⟨j - 1, by omega⟩
      have hi0 : (0 : Int) ≤ (((i + 1 : Nat) : Int)) - 1 := by omega
      have HB := Lib.hid HE.out.1.but
      go_wp2_with fail
      refine (sift_r hR.out HO.out HI.out a i m _ _ _ (by omega) (by omega) rfl _ e hW (by omega) (by omega) hn HB).mono ?_
      rintro e1 w2 ⟨d2, rfl, hS2, HD, hg2⟩
      go_wp2_with fail
      go_roundw
      case rel => exact ⟨i, d2, by omega, by congr 1 <;> omega, hS2, Lib.hid ⟨HD.out.1, HE.out.2.trans HD.out.2⟩, gr_trans hG hg2⟩
      case measure => simp [intOf] <;> omega
    · obtain rfl : j = 0 := by omega
      have hi0 : ¬ (0 : Int) ≤ (((0 : Nat) : Int)) - 1 := by omega
      have HT0 : Hid (Heap lt e a 0 m ∧ Tail lt e a m m ∧ Mv a (a + m) d e) := Lib.hid ⟨HE.out.1, ⟨Srt.one lt e (by omega), fun x y hx hy hz => by omega⟩, HE.out.2⟩
      clear HE
      go_wp2_with fail
      go_loopw [10] (fun iv wr => ∃ (j : Nat) (e : Nat → α), j ≤ m ∧ iv = .int .i64 ((j : Int) - 1) ∧ St wr e ∧ Hid (Heap lt e a 0 j ∧ Tail lt e a m j ∧ Mv a (a + m) d e) ∧ w.grownBy wr (some row)) (fun iv _ => (intOf iv + 1).toNat)
      case atStart => exact ⟨m, e, Nat.le_refl _, rfl, hW, HT0, hG⟩
      case round =>
        clear hG hW HT0
        obtain ⟨j, e, j0, rfl, hW, HE, hG⟩ := hrel
        by_cases hj : 0 < j
        · obtain ⟨i, rfl⟩ : ∃ i, j = i + 1 := ⟨j - 1, by omega⟩
          have hi0 : (0 : Int) ≤ (((i + 1 : Nat) : Int)) - 1 := by omega
          have NEW : Hid (HeapBut lt (swp e (a + 0) (a + i)) a 0 i 0 ∧ Tail lt (swp e (a + 0) (a + i)) a m i ∧ Mv a (a + m) d (swp e (a + 0) (a + i))) := Lib.hid ⟨heap_swap0 HE.out.1, HE.out.2.1.step HO.out HI.out HE.out.1 (by omega), HE.out.2.2.trans (swp_mv_in (by omega) (by omega))⟩
          have ms := hR.out.mswap hW
          have hsw := hR.out.swap (w := wr) (a + 0) (a + i) (a : Int) ((a : Int) + ((((i + 1 : Nat) : Int)) - 1)) (by omega) (by omega) hW (by omega) (by omega)
          obtain ⟨z, hz⟩ : ∃ z : Int, z = (((i + 1 : Nat) : Int)) - 1 := ⟨_, rfl⟩
          rw [← hz] at hsw hi0 ⊢
          have z0 : z ≤ (m : Int) := by omega
          have HZ := Lib.hid hz; clear hz
          go_wp2_with fail
          refine hsw.mono ?_
          rintro e' w2 ⟨rfl, hS2, hg2⟩
          clear hsw ms
          go_wp2_with fail
          refine (sift_r hR.out HO.out HI.out a 0 i _ _ _ rfl (by have := HZ.out; omega) rfl _ _ hS2 (by omega) (by omega) hn (Lib.hid NEW.out.1)).mono ?_
          rintro e1 w3 ⟨d3, rfl, hS3, HD, hg3⟩
          go_wp2_with fail
          go_roundw
          case rel => exact ⟨i, d3, by omega, by have := HZ.out; congr 1 <;> omega, hS3, Lib.hid ⟨HD.out.1, NEW.out.2.1.mv HD.out.2, NEW.out.2.2.trans (HD.out.2.mono (Nat.le_refl _) (by omega))⟩, gr_trans (gr_trans hG hg2) hg3⟩
          case measure => have := HZ.out; simp [intOf] <;> omega
        · obtain rfl : j = 0 := by omega
          have hi0 : ¬ (0 : Int) ≤ (((0 : Nat) : Int)) - 1 := by omega
          go_wp2_with fail
          go_end0
          exact ⟨e, rfl, hW, Lib.hid (by rw [HBB.out]; exact ⟨HE.out.2.1.1, HE.out.2.2⟩), hG⟩
end Go.Proofs.Ythpgnlmkgllonaa
