/- The library's sort: dividing a range by a pivot. No condition. -/
import Derived.Test.YthpgnlmkgllonaaPdqD
namespace Go.Proofs.Ythpgnlmkgllonaa
open Go.RowKit Go.PlainAid
open SB
set_option maxRecDepth 100000
set_option linter.unusedVariables false
variable {α : Type}
/-- The new pivot's place, and what stands on its sides. -/
def DivE (lt : α → α → Bool) (a b : Nat) (d : Nat → α) (p : α) (d' : Nat → α) (v : Value) : Prop := ∃ m : Nat, v = .int .i64 (m : Int) ∧ a < m ∧ m ≤ b ∧ Mv a b d d' ∧ SB.Alike lt d' a m b p
def DivP (lt : α → α → Bool) (a b : Nat) (d : Nat → α) (d' : Nat → α) (v : Value) : Prop := ∃ (m : Nat) (t : Bool), v = .tuple #[.int .i64 (m : Int), .bool t] ∧ a ≤ m ∧ m < b ∧ Mv a b d d' ∧ Parts lt d' a m b
/-- The state of a division by the first element: up to i not behind it, from j on behind it. -/
structure Cutting (lt : α → α → Bool) (a b i j : Nat) (d e : Nat → α) (p : α) (neg : Bool) : Prop where
  mv : Mv a b d e
  piv : e a = p
  low : ∀ k, a < k → k < i → (if neg then lt p (e k) = false else lt (e k) p = true)
  high : ∀ k, j < k → k < b → (if neg then lt p (e k) = true else lt (e k) p = false)
theorem Cutting.up {lt : α → α → Bool} {a b i j : Nat} {d e : Nat → α} {p : α} {neg : Bool} (h : Cutting lt a b i j d e p neg) (hi : if neg then lt p (e i) = false else lt (e i) p = true) : Cutting lt a b (i + 1) j d e p neg :=
  ⟨h.mv, h.piv, fun k k1 k2 => by
    by_cases q : k = i
    · subst q; exact hi
    · exact h.low k k1 (by omega), h.high⟩
theorem Cutting.down {lt : α → α → Bool} {a b i j : Nat} {d e : Nat → α} {p : α} {neg : Bool} (h : Cutting lt a b i (j + 1) d e p neg) (hj : if neg then lt p (e (j + 1)) = true else lt (e (j + 1)) p = false) : Cutting lt a b i j d e p neg :=
  ⟨h.mv, h.piv, h.low, fun k k1 k2 => by
    by_cases q : k = j + 1
    · subst q; exact hj
    · exact h.high k (by omega) k2⟩
theorem Cutting.swap {lt : α → α → Bool} {a b i j : Nat} {d e : Nat → α} {p : α} {neg : Bool} (h : Cutting lt a b i j d e p neg) (ai : a < i) (ij : i < j) (jb : j < b) (h1 : if neg then lt p (e i) = true else lt (e i) p = false) (h2 : if neg then lt p (e j) = false else lt (e j) p = true) : Cutting lt a b (i + 1) (j - 1) d (swp e i j) p neg := by
  have si : swp e i j i = e j := by unfold swp; rw [if_pos rfl]
  have sj : swp e i j j = e i := by unfold swp; rw [if_neg (by omega), if_pos rfl]
  have so : ∀ k, k ≠ i → k ≠ j → swp e i j k = e k := fun k q1 q2 => by unfold swp; rw [if_neg q1, if_neg q2]
  refine ⟨h.mv.trans (Mv.swp _ ⟨by omega, by omega⟩ ⟨by omega, by omega⟩), by rw [so a (by omega) (by omega)]; exact h.piv, fun k k1 k2 => ?_, fun k k1 k2 => ?_⟩
  · by_cases q : k = i
    · subst q; rw [si]; exact h2
    · rw [so k q (by omega)]; exact h.low k k1 (by omega)
  · by_cases q : k = j
    · subst q; rw [sj]; exact h1
    · rw [so k (by omega) q]; exact h.high k (by omega) k2
theorem Cutting.start {lt : α → α → Bool} {a b p : Nat} (d : Nat → α) (neg : Bool) (ap : a ≤ p) (pb : p < b) : Cutting lt a b (a + 1) (b - 1) d (swp d a p) (d p) neg :=
  ⟨Mv.swp _ ⟨Nat.le_refl _, by omega⟩ ⟨ap, pb⟩, by unfold swp; rw [if_pos rfl], fun k k1 k2 => by omega, fun k k1 k2 => by omega⟩
theorem Cutting.alike {lt : α → α → Bool} (irr : ∀ x, lt x x = false) {a b i j : Nat} {d e : Nat → α} {p : α} (h : Cutting lt a b i j d e p true) (ai : a < i) (ij : j < i) : SB.Alike lt e a i b p :=
  ⟨fun k k1 k2 => by
    by_cases q : k = a
    · subst q; rw [h.piv]; exact irr _
    · have := h.low k (by omega) k2; simpa using this, fun k k1 k2 => by have := h.high k (by omega) k2; simpa using this⟩
theorem Cutting.parts {lt : α → α → Bool} (O : Ord lt) {a b i j : Nat} {d e : Nat → α} {p : α} (h : Cutting lt a b i j d e p false) (ji : j + 1 = i) (aj : a ≤ j) (jb : j < b) : Mv a b d (swp e j a) ∧ Parts lt (swp e j a) a j b := by
  have sj : swp e j a j = p := by unfold swp; rw [if_pos rfl]; exact h.piv
  have so : ∀ k, k ≠ j → k ≠ a → swp e j a k = e k := fun k q1 q2 => by unfold swp; rw [if_neg q1, if_neg q2]
  refine ⟨h.mv.trans (Mv.swp _ ⟨aj, jb⟩ ⟨Nat.le_refl _, by omega⟩), fun k k1 k2 => ?_, fun k k1 k2 => ?_⟩
  · rw [sj]
    by_cases q : k = a
    · subst q
      have sa : swp e j k k = e j := by unfold swp; rw [if_neg (by omega), if_pos rfl]
      rw [sa]
      have := h.low j (by omega) (by omega)
      simp at this; exact O.asym _ _ this
    · rw [so k (by omega) q]
      have := h.low k (by omega) (by omega)
      simp at this; exact O.asym _ _ this
  · rw [sj, so k (by omega) (by omega)]
    have := h.high k k1 k2
    simpa using this
set_option maxHeartbeats 6400000 in
theorem equal_r {bs B : Nat} {rl rs : Value} {lt : α → α → Bool} {n row : Nat} {St : World → (Nat → α) → Prop} (E : REnv bs B rl rs lt n row St) (O : Ord lt) (irr : ∀ x, lt x x = false) (a b p : Nat) (x y z : Int) (hx : x = (a : Int)) (hy : y = (b : Int)) (hz : z = (p : Int)) (w : World) (d : Nat → α) (h : St w d) (h1 : a ≤ p) (hpb : p < b) (h2 : b ≤ n) (hn : n < 1099511627776) :
    Calls Try.prog 23 #[.iface 36 (.pointer (some ⟨B, 0, none⟩)), .int .i64 x, .int .i64 y, .int .i64 z] w (SPostV row St (DivE lt a b d (d p)) w) := by
  subst hx hy hz
  have hR := Lib.hid E
  have HO := Lib.hid O
  have HI := Lib.hid irr
  have ms := hR.out.mswap h
  have hsw := hR.out.swap (w := w) a p (a : Int) (p : Int) rfl rfl h (by omega) (by omega)
  obtain ⟨pv, hpv⟩ : ∃ pv, pv = d p := ⟨_, rfl⟩
  have H0 := Lib.hid (Cutting.start (lt := lt) d true h1 hpb)
  rw [← hpv] at H0 ⊢
  clear hpv
  go_enter Try.func23, Try.ntmps23
  go_wp2_with fail
  refine hsw.mono ?_
  rintro e' w1 ⟨rfl, hS1, hg1⟩
  clear hsw ms
  have hbi : (1 : Int) ≤ (b : Int) := by omega
  go_wp2_with fail
  go_loopw [9, 10] (fun iv jv wr => ∃ (i j : Nat) (e : Nat → α), a < i ∧ i ≤ j + 1 ∧ a ≤ j ∧ j < b ∧ iv = .int .i64 (i : Int) ∧ jv = .int .i64 (j : Int) ∧ St wr e ∧ Hid (Cutting lt a b i j d e pv true) ∧ w.grownBy wr (some row)) (fun iv jv _ => (intOf jv).toNat + 1 - (intOf iv).toNat)
  case atStart => exact ⟨a + 1, b - 1, _, by omega, by omega, by omega, by omega, by go_num, by congr 1 <;> omega, hS1, H0, hg1⟩
  case round =>
    clear hS1 hg1 H0
    obtain ⟨i, j, e, ai, ij, aj, jb, rfl, rfl, hW, HC, hG⟩ := hrel
    obtain ⟨wo, rfl⟩ : ∃ wo : World, wo = wr := ⟨_, rfl⟩
    go_wp2_with fail
    obtain ⟨io, hio1, hio2⟩ : ∃ io : Nat, io ≤ i ∧ i ≤ io := ⟨i, Nat.le_refl _, Nat.le_refl _⟩
    obtain ⟨jo, hjo1, hjo2⟩ : ∃ jo : Nat, j ≤ jo ∧ jo ≤ j := ⟨j, Nat.le_refl _, Nat.le_refl _⟩
    go_loopw [9] (fun iv wr => ∃ i : Nat, io ≤ i ∧ a < i ∧ i ≤ j + 1 ∧ iv = .int .i64 (i : Int) ∧ St wr e ∧ Hid (Cutting lt a b i j d e pv true) ∧ w.grownBy wr (some row)) (fun iv _ => j + 1 - (intOf iv).toNat)
    case atStart => exact ⟨i, hio1, ai, ij, rfl, hW, HC, hG⟩
    case round =>
      clear hG hW HC ai ij
      obtain ⟨i, hi9, ai, ij, rfl, hW, HC, hG⟩ := hrel
      by_cases hij : i ≤ j
      · have hij' : (i : Int) ≤ (j : Int) := by omega
        have ml := hR.out.mless hW
        have hl := hR.out.less (w := wr) a i (a : Int) (i : Int) rfl rfl hW (by omega) (by omega)
        rw [HC.out.piv] at hl
        cases hlv : lt pv (e i)
        · rw [hlv] at hl
          have NEW := Lib.hid (HC.out.up (by simpa using hlv))
          clear hlv
          go_wp2_with fail
          refine hl.mono ?_
          rintro e' w4 ⟨rfl, hb⟩
          clear hl ml
          go_wp2_with fail
          go_roundw
          case rel => exact ⟨i + 1, by omega, by omega, by omega, by go_num, hR.out.keep hW hb, NEW, gr_below hG hb⟩
          case measure => simp [intOf] <;> omega
        · rw [hlv] at hl
          have HLI := Lib.hid hlv; clear hlv
          go_wp2_with fail
          refine hl.mono ?_
          rintro e' w4 ⟨rfl, hb⟩
          clear hl ml
          replace hW := hR.out.keep hW hb
          replace hG := gr_below hG hb
          clear hb hij hij'
          go_wp2_with fail
          go_loopw [10] (fun jv wr => ∃ j : Nat, j ≤ jo ∧ a ≤ j ∧ i ≤ j + 1 ∧ j < b ∧ jv = .int .i64 (j : Int) ∧ St wr e ∧ Hid (Cutting lt a b i j d e pv true) ∧ w.grownBy wr (some row)) (fun jv _ => (intOf jv).toNat)
          case atStart => exact ⟨j, hjo1, aj, ij, jb, rfl, hW, HC, hG⟩
          case round =>
            clear hG hW HC ij aj jb
            obtain ⟨j, hj9, aj, ij, jb, rfl, hW, HC, hG⟩ := hrel
            by_cases hij : i ≤ j
            · have hij' : (i : Int) ≤ (j : Int) := by omega
              have ml := hR.out.mless hW
              have hl := hR.out.less (w := wr) a j (a : Int) (j : Int) rfl rfl hW (by omega) (by omega)
              rw [HC.out.piv] at hl
              cases hlv : lt pv (e j)
              · rw [hlv] at hl
                have HLJ := Lib.hid hlv; clear hlv
                go_wp2_with fail
                refine hl.mono ?_
                rintro e' w5 ⟨rfl, hb⟩
                clear hl ml
                have hW5 := hR.out.keep hW hb
                have hG5 := gr_below hG hb
                clear hW hG hb
                have hne : i ≠ j := fun q => by
                  have h8 := HLI.out
                  rw [q, HLJ.out] at h8
                  exact Bool.noConfusion h8
                have hlt3 : ¬ (j : Int) < (i : Int) := by omega
                have ms := hR.out.mswap hW5
                have hsw := hR.out.swap (w := w5) i j (i : Int) (j : Int) rfl rfl hW5 (by omega) (by omega)
                have NEW := Lib.hid (HC.out.swap ai (by omega) jb (by simpa using HLI.out) (by simpa using HLJ.out))
                go_wp2_with fail
                refine hsw.mono ?_
                rintro e' w6 ⟨rfl, hS6, hg6⟩
                clear hsw ms
                go_wp2_with fail
                go_roundw
                case rel => exact ⟨i + 1, j - 1, _, by omega, by omega, by omega, by omega, by go_num, by congr 1 <;> omega, hS6, NEW, gr_trans hG5 hg6⟩
                case measure => simp [intOf] <;> omega
              · rw [hlv] at hl
                obtain ⟨j', rfl⟩ : ∃ j', j = j' + 1 := ⟨j - 1, by omega⟩
                have NEW := Lib.hid (HC.out.down (by simpa using hlv))
                clear hlv
                go_wp2_with fail
                refine hl.mono ?_
                rintro e' w5 ⟨rfl, hb⟩
                clear hl ml
                go_wp2_with fail
                go_roundw
                case rel => exact ⟨j', by omega, by omega, by omega, by omega, by congr 1 <;> omega, hR.out.keep hW hb, NEW, gr_below hG hb⟩
                case measure => simp [intOf] <;> omega
            · have hij' : ¬ (i : Int) ≤ (j : Int) := by omega
              have hlt3 : (j : Int) < (i : Int) := by omega
              have FIN := Lib.hid (HC.out.alike HI.out ai (by omega))
              have HMV := Lib.hid HC.out.mv
              go_wp2_with fail
              go_ret
              exact ⟨e, _, rfl, hW, Lib.hid ⟨i, rfl, ai, by omega, HMV.out, FIN.out⟩, hG⟩
      · have hij' : ¬ (i : Int) ≤ (j : Int) := by omega
        go_wp2_with fail
        go_loopw [10] (fun jv wr => ∃ j : Nat, j ≤ jo ∧ a ≤ j ∧ i ≤ j + 1 ∧ j < b ∧ jv = .int .i64 (j : Int) ∧ St wr e ∧ Hid (Cutting lt a b i j d e pv true) ∧ w.grownBy wr (some row)) (fun jv _ => (intOf jv).toNat)
        case atStart => exact ⟨j, hjo1, aj, ij, jb, rfl, hW, HC, hG⟩
        case round =>
          clear hG hW HC ij aj jb
          obtain ⟨j, hj9, aj, ij, jb, rfl, hW, HC, hG⟩ := hrel
          by_cases hij : i ≤ j
          · have hij' : (i : Int) ≤ (j : Int) := by omega
            exfalso; omega
          · have hij' : ¬ (i : Int) ≤ (j : Int) := by omega
            have hlt3 : (j : Int) < (i : Int) := by omega
            have FIN := Lib.hid (HC.out.alike HI.out ai (by omega))
            have HMV := Lib.hid HC.out.mv
            go_wp2_with fail
            go_ret
            exact ⟨e, _, rfl, hW, Lib.hid ⟨i, rfl, ai, by omega, HMV.out, FIN.out⟩, hG⟩
set_option maxHeartbeats 6400000 in
theorem part_r {bs B : Nat} {rl rs : Value} {lt : α → α → Bool} {n row : Nat} {St : World → (Nat → α) → Prop} (E : REnv bs B rl rs lt n row St) (O : Ord lt) (irr : ∀ x, lt x x = false) (a b p : Nat) (x y z : Int) (hx : x = (a : Int)) (hy : y = (b : Int)) (hz : z = (p : Int)) (w : World) (d : Nat → α) (h : St w d) (h1 : a ≤ p) (hpb : p < b) (h2 : b ≤ n) (hn : n < 1099511627776) :
    Calls Try.prog 24 #[.iface 36 (.pointer (some ⟨B, 0, none⟩)), .int .i64 x, .int .i64 y, .int .i64 z] w (SPostV row St (DivP lt a b d) w) := by
  subst hx hy hz
  have hR := Lib.hid E
  have HO := Lib.hid O
  have HI := Lib.hid irr
  have ms := hR.out.mswap h
  have hsw := hR.out.swap (w := w) a p (a : Int) (p : Int) rfl rfl h (by omega) (by omega)
  obtain ⟨pv, hpv⟩ : ∃ pv, pv = d p := ⟨_, rfl⟩
  have H0 := Lib.hid (Cutting.start (lt := lt) d false h1 hpb)
  rw [← hpv] at H0
  clear hpv
  go_enter Try.func24, Try.ntmps24
  go_wp2_with fail
  refine hsw.mono ?_
  rintro e' w1 ⟨rfl, hS1, hg1⟩
  clear hsw ms
  have hbi : (1 : Int) ≤ (b : Int) := by omega
  obtain ⟨e, he⟩ : ∃ e, e = swp d a p := ⟨_, rfl⟩
  rw [← he] at hS1 H0
  clear he
  obtain ⟨i, hi⟩ : ∃ i : Nat, i = a + 1 := ⟨_, rfl⟩
  obtain ⟨j, hj⟩ : ∃ j : Nat, j = b - 1 := ⟨_, rfl⟩
  rw [← hi, ← hj] at H0
  have ai : a < i := by omega
  have ij : i ≤ j + 1 := by omega
  have aj : a ≤ j := by omega
  have jb : j < b := by omega
  have hi' : (a : Int) + 1 = (i : Int) := by omega
  have hj' : (b : Int) - 1 = (j : Int) := by omega
  clear hi hj
  have hW := hS1; have hG := hg1; have HC := H0
  clear hS1 hg1 H0
  go_wp2_with fail
  clear hi' hj'
  obtain ⟨io, hio1, hio2⟩ : ∃ io : Nat, io ≤ i ∧ i ≤ io := ⟨i, Nat.le_refl _, Nat.le_refl _⟩
  obtain ⟨jo, hjo1, hjo2⟩ : ∃ jo : Nat, j ≤ jo ∧ jo ≤ j := ⟨j, Nat.le_refl _, Nat.le_refl _⟩
  go_loopw [10] (fun iv wr => ∃ i : Nat, io ≤ i ∧ a < i ∧ i ≤ j + 1 ∧ iv = .int .i64 (i : Int) ∧ St wr e ∧ Hid (Cutting lt a b i j d e pv false) ∧ w.grownBy wr (some row)) (fun iv _ => j + 1 - (intOf iv).toNat)
  case atStart => exact ⟨i, hio1, ai, ij, rfl, hW, HC, hG⟩
  case round =>
    clear hG hW HC ai ij
    obtain ⟨i, hi9, ai, ij, rfl, hW, HC, hG⟩ := hrel
    by_cases hij : i ≤ j
    · have hij' : (i : Int) ≤ (j : Int) := by omega
      have ml := hR.out.mless hW
      have hl := hR.out.less (w := wr) i a (i : Int) (a : Int) rfl rfl hW (by omega) (by omega)
      rw [HC.out.piv] at hl
      cases hlv : lt (e i) pv
      · rw [hlv] at hl
        have HLI := Lib.hid hlv; clear hlv
        go_wp2_with fail
        refine hl.mono ?_
        rintro e' w4 ⟨rfl, hb⟩
        clear hl ml
        replace hW := hR.out.keep hW hb
        replace hG := gr_below hG hb
        clear hb hij hij'
        go_wp2_with fail
        go_loopw [11] (fun jv wr => ∃ j : Nat, j ≤ jo ∧ a ≤ j ∧ i ≤ j + 1 ∧ j < b ∧ jv = .int .i64 (j : Int) ∧ St wr e ∧ Hid (Cutting lt a b i j d e pv false) ∧ w.grownBy wr (some row)) (fun jv _ => (intOf jv).toNat)
        case atStart => exact ⟨j, hjo1, aj, ij, jb, rfl, hW, HC, hG⟩
        case round =>
          clear hG hW HC ij aj jb
          obtain ⟨j, hj9, aj, ij, jb, rfl, hW, HC, hG⟩ := hrel
          by_cases hij : i ≤ j
          · have hij' : (i : Int) ≤ (j : Int) := by omega
            have ml := hR.out.mless hW
            have hl := hR.out.less (w := wr) j a (j : Int) (a : Int) rfl rfl hW (by omega) (by omega)
            rw [HC.out.piv] at hl
            cases hlv : lt (e j) pv
            · rw [hlv] at hl
              obtain ⟨j', rfl⟩ : ∃ j', j = j' + 1 := ⟨j - 1, by omega⟩
              have NEW := Lib.hid (HC.out.down (by simpa using hlv))
              clear hlv
              go_wp2_with fail
              refine hl.mono ?_
              rintro e' w5 ⟨rfl, hb⟩
              clear hl ml
              go_wp2_with fail
              go_roundw
              case rel => exact ⟨j', by omega, by omega, by omega, by omega, by congr 1 <;> omega, hR.out.keep hW hb, NEW, gr_below hG hb⟩
              case measure => simp [intOf] <;> omega
            · rw [hlv] at hl
              have HLJ := Lib.hid hlv; clear hlv
              go_wp2_with fail
              refine hl.mono ?_
              rintro e' w5 ⟨rfl, hb⟩
              clear hl ml
              have hW5 := hR.out.keep hW hb
              have hG5 := gr_below hG hb
              clear hW hG hb
              have hne : i ≠ j := fun q => by
                have h8 := HLI.out
                rw [q, HLJ.out] at h8
                exact Bool.noConfusion h8
              have hlt3 : ¬ (j : Int) < (i : Int) := by omega
              have ms := hR.out.mswap hW5
              have hsw := hR.out.swap (w := w5) i j (i : Int) (j : Int) rfl rfl hW5 (by omega) (by omega)
              have NEW := Lib.hid (HC.out.swap ai (by omega) jb (by simpa using HLI.out) (by simpa using HLJ.out))
              go_wp2_with fail
              refine hsw.mono ?_
              rintro e' w6 ⟨rfl, hS6, hg6⟩
              clear hsw ms
              have hG6 := gr_trans hG5 hg6
              clear hW5 hG5 hg6 HC HLI HLJ hlt3
              go_wp2_with fail
              go_loopw [10, 11] (fun iv jv wr => ∃ (i j : Nat) (e : Nat → α), a < i ∧ i ≤ j + 1 ∧ a ≤ j ∧ j < b ∧ iv = .int .i64 (i : Int) ∧ jv = .int .i64 (j : Int) ∧ St wr e ∧ Hid (Cutting lt a b i j d e pv false) ∧ w.grownBy wr (some row)) (fun iv jv _ => (intOf jv).toNat + 1 - (intOf iv).toNat)
              case atStart => exact ⟨i + 1, j - 1, _, by omega, by omega, by omega, by omega, by go_num, by congr 1 <;> omega, hS6, NEW, hG6⟩
              case round =>
                clear hS6 hG6 NEW ai ij aj jb hij hij' hne
                obtain ⟨i, j, e, ai, ij, aj, jb, rfl, rfl, hW, HC, hG⟩ := hrel
                obtain ⟨wo, rfl⟩ : ∃ wo : World, wo = wr := ⟨_, rfl⟩
                go_wp2_with fail
                obtain ⟨io, hio1, hio2⟩ : ∃ io : Nat, io ≤ i ∧ i ≤ io := ⟨i, Nat.le_refl _, Nat.le_refl _⟩
                obtain ⟨jo, hjo1, hjo2⟩ : ∃ jo : Nat, j ≤ jo ∧ jo ≤ j := ⟨j, Nat.le_refl _, Nat.le_refl _⟩
                go_loopw [10] (fun iv wr => ∃ i : Nat, io ≤ i ∧ a < i ∧ i ≤ j + 1 ∧ iv = .int .i64 (i : Int) ∧ St wr e ∧ Hid (Cutting lt a b i j d e pv false) ∧ w.grownBy wr (some row)) (fun iv _ => j + 1 - (intOf iv).toNat)
                case atStart => exact ⟨i, hio1, ai, ij, rfl, hW, HC, hG⟩
                case round =>
                  clear hG hW HC ai ij
                  obtain ⟨i, hi9, ai, ij, rfl, hW, HC, hG⟩ := hrel
                  by_cases hij : i ≤ j
                  · have hij' : (i : Int) ≤ (j : Int) := by omega
                    have ml := hR.out.mless hW
                    have hl := hR.out.less (w := wr) i a (i : Int) (a : Int) rfl rfl hW (by omega) (by omega)
                    rw [HC.out.piv] at hl
                    cases hlv : lt (e i) pv
                    · rw [hlv] at hl
                      have HLI := Lib.hid hlv; clear hlv
                      go_wp2_with fail
                      refine hl.mono ?_
                      rintro e' w4 ⟨rfl, hb⟩
                      clear hl ml
                      replace hW := hR.out.keep hW hb
                      replace hG := gr_below hG hb
                      clear hb hij hij'
                      go_wp2_with fail
                      go_loopw [11] (fun jv wr => ∃ j : Nat, j ≤ jo ∧ a ≤ j ∧ i ≤ j + 1 ∧ j < b ∧ jv = .int .i64 (j : Int) ∧ St wr e ∧ Hid (Cutting lt a b i j d e pv false) ∧ w.grownBy wr (some row)) (fun jv _ => (intOf jv).toNat)
                      case atStart => exact ⟨j, hjo1, aj, ij, jb, rfl, hW, HC, hG⟩
                      case round =>
                        clear hG hW HC ij aj jb
                        obtain ⟨j, hj9, aj, ij, jb, rfl, hW, HC, hG⟩ := hrel
                        by_cases hij : i ≤ j
                        · have hij' : (i : Int) ≤ (j : Int) := by omega
                          have ml := hR.out.mless hW
                          have hl := hR.out.less (w := wr) j a (j : Int) (a : Int) rfl rfl hW (by omega) (by omega)
                          rw [HC.out.piv] at hl
                          cases hlv : lt (e j) pv
                          · rw [hlv] at hl
                            obtain ⟨j', rfl⟩ : ∃ j', j = j' + 1 := ⟨j - 1, by omega⟩
                            have NEW := Lib.hid (HC.out.down (by simpa using hlv))
                            clear hlv
                            go_wp2_with fail
                            refine hl.mono ?_
                            rintro e' w5 ⟨rfl, hb⟩
                            clear hl ml
                            go_wp2_with fail
                            go_roundw
                            case rel => exact ⟨j', by omega, by omega, by omega, by omega, by congr 1 <;> omega, hR.out.keep hW hb, NEW, gr_below hG hb⟩
                            case measure => simp [intOf] <;> omega
                          · rw [hlv] at hl
                            have HLJ := Lib.hid hlv; clear hlv
                            go_wp2_with fail
                            refine hl.mono ?_
                            rintro e' w5 ⟨rfl, hb⟩
                            clear hl ml
                            have hW5 := hR.out.keep hW hb
                            have hG5 := gr_below hG hb
                            clear hW hG hb
                            have hne : i ≠ j := fun q => by
                              have h8 := HLI.out
                              rw [q, HLJ.out] at h8
                              exact Bool.noConfusion h8
                            have hlt3 : ¬ (j : Int) < (i : Int) := by omega
                            have ms := hR.out.mswap hW5
                            have hsw := hR.out.swap (w := w5) i j (i : Int) (j : Int) rfl rfl hW5 (by omega) (by omega)
                            have NEW := Lib.hid (HC.out.swap ai (by omega) jb (by simpa using HLI.out) (by simpa using HLJ.out))
                            go_wp2_with fail
                            refine hsw.mono ?_
                            rintro e' w6 ⟨rfl, hS6, hg6⟩
                            clear hsw ms
                            go_wp2_with fail
                            go_roundw
                            case rel => exact ⟨i + 1, j - 1, _, by omega, by omega, by omega, by omega, by go_num, by congr 1 <;> omega, hS6, NEW, gr_trans hG5 hg6⟩
                            case measure => simp [intOf] <;> omega
                        · have hij' : ¬ (i : Int) ≤ (j : Int) := by omega
                          have hlt3 : (j : Int) < (i : Int) := by omega
                          have hij1 : j + 1 = i := by omega
                          have ms := hR.out.mswap hW
                          have hsw := hR.out.swap (w := wr) j a (j : Int) (a : Int) rfl rfl hW (by omega) (by omega)
                          have FIN := Lib.hid (HC.out.parts HO.out hij1 aj jb)
                          have HIJ := Lib.hid hij1; clear hij1
                          go_wp2_with fail
                          refine hsw.mono ?_
                          rintro e' w7 ⟨rfl, hS7, hg7⟩
                          clear hsw ms
                          go_wp2_with fail
                          go_ret2
                          exact ⟨_, _, rfl, hS7, Lib.hid ⟨j, false, rfl, aj, jb, FIN.out.1, FIN.out.2⟩, gr_trans hG hg7⟩
                    · rw [hlv] at hl
                      have NEW := Lib.hid (HC.out.up (by simpa using hlv))
                      clear hlv
                      go_wp2_with fail
                      refine hl.mono ?_
                      rintro e' w4 ⟨rfl, hb⟩
                      clear hl ml
                      go_wp2_with fail
                      go_roundw
                      case rel => exact ⟨i + 1, by omega, by omega, by omega, by go_num, hR.out.keep hW hb, NEW, gr_below hG hb⟩
                      case measure => simp [intOf] <;> omega
                  · have hij' : ¬ (i : Int) ≤ (j : Int) := by omega
                    go_wp2_with fail
                    go_loopw [11] (fun jv wr => ∃ j : Nat, j ≤ jo ∧ a ≤ j ∧ i ≤ j + 1 ∧ j < b ∧ jv = .int .i64 (j : Int) ∧ St wr e ∧ Hid (Cutting lt a b i j d e pv false) ∧ w.grownBy wr (some row)) (fun jv _ => (intOf jv).toNat)
                    case atStart => exact ⟨j, hjo1, aj, ij, jb, rfl, hW, HC, hG⟩
                    case round =>
                      clear hG hW HC ij aj jb
                      obtain ⟨j, hj9, aj, ij, jb, rfl, hW, HC, hG⟩ := hrel
                      by_cases hij : i ≤ j
                      · have hij' : (i : Int) ≤ (j : Int) := by omega
                        exfalso; omega
                      · have hij' : ¬ (i : Int) ≤ (j : Int) := by omega
                        have hlt3 : (j : Int) < (i : Int) := by omega
                        have hij1 : j + 1 = i := by omega
                        have ms := hR.out.mswap hW
                        have hsw := hR.out.swap (w := wr) j a (j : Int) (a : Int) rfl rfl hW (by omega) (by omega)
                        have FIN := Lib.hid (HC.out.parts HO.out hij1 aj jb)
                        have HIJ := Lib.hid hij1; clear hij1
                        go_wp2_with fail
                        refine hsw.mono ?_
                        rintro e' w7 ⟨rfl, hS7, hg7⟩
                        clear hsw ms
                        go_wp2_with fail
                        go_ret2
                        exact ⟨_, _, rfl, hS7, Lib.hid ⟨j, false, rfl, aj, jb, FIN.out.1, FIN.out.2⟩, gr_trans hG hg7⟩
          · have hij' : ¬ (i : Int) ≤ (j : Int) := by omega
            have hlt3 : (j : Int) < (i : Int) := by omega
            have hij1 : j + 1 = i := by omega
            have ms := hR.out.mswap hW
            have hsw := hR.out.swap (w := wr) j a (j : Int) (a : Int) rfl rfl hW (by omega) (by omega)
            have FIN := Lib.hid (HC.out.parts HO.out hij1 aj jb)
            have HIJ := Lib.hid hij1; clear hij1
            go_wp2_with fail
            refine hsw.mono ?_
            rintro e' w7 ⟨rfl, hS7, hg7⟩
            clear hsw ms
            go_wp2_with fail
            go_ret2
            exact ⟨_, _, rfl, hS7, Lib.hid ⟨j, true, rfl, aj, jb, FIN.out.1, FIN.out.2⟩, gr_trans hG hg7⟩
      · rw [hlv] at hl
        have NEW := Lib.hid (HC.out.up (by simpa using hlv))
        clear hlv
        go_wp2_with fail
        refine hl.mono ?_
        rintro e' w4 ⟨rfl, hb⟩
        clear hl ml
        go_wp2_with fail
        go_roundw
        case rel => exact ⟨i + 1, by omega, by omega, by omega, by go_num, hR.out.keep hW hb, NEW, gr_below hG hb⟩
        case measure => simp [intOf] <;> omega
    · have hij' : ¬ (i : Int) ≤ (j : Int) := by omega
      go_wp2_with fail
      go_loopw [11] (fun jv wr => ∃ j : Nat, j ≤ jo ∧ a ≤ j ∧ i ≤ j + 1 ∧ j < b ∧ jv = .int .i64 (j : Int) ∧ St wr e ∧ Hid (Cutting lt a b i j d e pv false) ∧ w.grownBy wr (some row)) (fun jv _ => (intOf jv).toNat)
      case atStart => exact ⟨j, hjo1, aj, ij, jb, rfl, hW, HC, hG⟩
      case round =>
        clear hG hW HC ij aj jb
        obtain ⟨j, hj9, aj, ij, jb, rfl, hW, HC, hG⟩ := hrel
        by_cases hij : i ≤ j
        · have hij' : (i : Int) ≤ (j : Int) := by omega
          exfalso; omega
        · have hij' : ¬ (i : Int) ≤ (j : Int) := by omega
          have hlt3 : (j : Int) < (i : Int) := by omega
          have hij1 : j + 1 = i := by omega
          have ms := hR.out.mswap hW
          have hsw := hR.out.swap (w := wr) j a (j : Int) (a : Int) rfl rfl hW (by omega) (by omega)
          have FIN := Lib.hid (HC.out.parts HO.out hij1 aj jb)
          have HIJ := Lib.hid hij1; clear hij1
          go_wp2_with fail
          refine hsw.mono ?_
          rintro e' w7 ⟨rfl, hS7, hg7⟩
          clear hsw ms
          go_wp2_with fail
          go_ret2
          exact ⟨_, _, rfl, hS7, Lib.hid ⟨j, true, rfl, aj, jb, FIN.out.1, FIN.out.2⟩, gr_trans hG hg7⟩
end Go.Proofs.Ythpgnlmkgllonaa
