/- The library's stable sort, at every length. No condition. -/
import Derived.Test.YtdmeinfdldiegaaSymAB
import Derived.Test.YtdmeinfdldiegaaSymC
namespace Go.Proofs.Ytdmeinfdldiegaa
open Go.RowKit Go.PlainAid Go.Shelf
open SB
set_option maxRecDepth 100000
set_option linter.unusedVariables false
variable {α : Type}
theorem symMerge_aux {g sf : Nat} {lb sb : Array Value} {lt : α → α → Bool} {n row : Nat} {St : World → (Nat → α) → Prop} (E : SEnv g sf lb sb lt n row St) (O : Ord lt) (hn : n < 1099511627776) : ∀ (sz : Nat) (a m b : Nat) (x y z : Int), x = (a : Int) → y = (m : Int) → z = (b : Int) → ∀ (w : World) (d : Nat → α), St w d → b - a ≤ sz → a < m → m < b → b ≤ n → Hid (Srt lt d a m ∧ Srt lt d m b) →
    Calls Try.prog 75 #[.agg #[.func (.func g) #[] lb, .func (.func sf) #[] sb], .int .i64 x, .int .i64 y, .int .i64 z] w (SPostS row St (fun d' => Srt lt d' a b ∧ Mv a b d d') w)
  | 0, a, m, b, x, y, z, hx, hy, hz, w, d, h, hs, h1, h2, h3, H => by omega
  | sz + 1, a, m, b, x, y, z, hx, hy, hz, w, d, h, hs, h1, h2, h3, H => by
    subst hx hy hz
    by_cases hA : m - a = 1
    · exact symA E O hn a m b w d h h1 h2 h3 H hA
    · by_cases hB : b - m = 1
      · exact symB E O hn a m b w d h h1 h2 h3 H hA hB
      · exact symC E O hn sz (symMerge_aux E O hn sz) a m b w d h h1 h2 h3 H hs hA hB
theorem symMerge_any {g sf : Nat} {lb sb : Array Value} {lt : α → α → Bool} {n row : Nat} {St : World → (Nat → α) → Prop} (E : SEnv g sf lb sb lt n row St) (O : Ord lt) (hn : n < 1099511627776) (a m b : Nat) (x y z : Int) (hx : x = (a : Int)) (hy : y = (m : Int)) (hz : z = (b : Int)) (w : World) (d : Nat → α) (h : St w d) (h1 : a < m) (h2 : m < b) (h3 : b ≤ n) (HSS : Hid (Srt lt d a m ∧ Srt lt d m b)) :
    Calls Try.prog 75 #[.agg #[.func (.func g) #[] lb, .func (.func sf) #[] sb], .int .i64 x, .int .i64 y, .int .i64 z] w (SPostS row St (fun d' => Srt lt d' a b ∧ Mv a b d d') w) := symMerge_aux E O hn (b - a) a m b x y z hx hy hz w d h (Nat.le_refl _) h1 h2 h3 HSS
set_option maxHeartbeats 3200000 in
theorem stable_any {g sf : Nat} {lb sb : Array Value} {lt : α → α → Bool} {n row : Nat} {St : World → (Nat → α) → Prop} (E : SEnv g sf lb sb lt n row St) (O : Ord lt) (hn : n < 1099511627776) (z : Int) (hz : z = (n : Int)) (w : World) (d : Nat → α) (h : St w d) :
    Calls Try.prog 56 #[.agg #[.func (.func g) #[] lb, .func (.func sf) #[] sb], .int .i64 z] w (SPostS row St (fun d' => Srt lt d' 0 n ∧ Mv 0 n d d') w) := by
  have hrow := E.lt_ h
  have b0 : Below w.heap.size w (w.alloc (.cells #[.func (.func g) #[] lb, .func (.func sf) #[] sb] 86)) := (Below.refl _ _).alloc (Nat.le_refl _) _
  have hS := E.keep h b0
  have hR := Lib.hid E
  have HO := Lib.hid O
  have hGr := gr_below (gr_refl w row) b0
  subst hz
  go_enter Try.func56, Try.ntmps56
  go_wp2_with fail
  obtain ⟨W, hW⟩ : ∃ W, W = w.alloc (.cells #[.func (.func g) #[] lb, .func (.func sf) #[] sb] 86) := ⟨_, rfl⟩
  rw [← hW] at hS hGr ⊢
  have c0 : W.cell? ⟨w.heap.size, 0, none⟩ = some (.func (.func g) #[] lb) := by rw [hW]; simp [go_sem]
  have c1 : W.cell? ⟨w.heap.size, 1, none⟩ = some (.func (.func sf) #[] sb) := by rw [hW]; simp [go_sem]
  clear hW b0
  go_loopw [5, 6] (fun av bv wr => ∃ (p A : Nat) (e : Nat → α), A ≤ n ∧ av = .int .i64 (A : Int) ∧ bv = .int .i64 ((A : Int) + 20) ∧ St wr e ∧ Hid (A = p * 20 ∧ Lo lt e 20 A ∧ Mv 0 n d e) ∧ wr.cell? ⟨w.heap.size, 0, none⟩ = some (.func (.func g) #[] lb) ∧ wr.cell? ⟨w.heap.size, 1, none⟩ = some (.func (.func sf) #[] sb) ∧ w.grownBy wr (some row)) (fun av _ _ => n - (intOf av).toNat)
  case atStart => exact ⟨0, 0, d, Nat.zero_le _, rfl, by first | rfl | simp, hS, Lib.hid ⟨by omega, fun q hq => by omega, Mv.refl _ _ _⟩, c0, c1, hGr⟩
  case round =>
    clear c0 c1 hGr hS
    obtain ⟨p, A, e, hA, rfl, rfl, hW, HE, c0, c1, hG⟩ := hrel
    by_cases hlt : A + 20 ≤ n
    · have hlt' : (A : Int) + 20 ≤ (n : Int) := by omega
      go_wp2_with fail
      refine (insertion_any hR.out HO.out A (A + 20) _ _ rfl (by omega) _ e hW (by omega) hlt hn).mono ?_
      rintro e1 w2 ⟨d2, rfl, hS2, HD, hg2⟩
      go_wp2_with fail
      go_roundw
      case rel => exact ⟨p + 1, A + 20, d2, hlt, by congr 1 <;> omega, by congr 1 <;> omega, hS2, Lib.hid ⟨by have := HE.out.1; omega, by
        have h1 := HE.out.2.1
        have h2 := HD.out
        rw [HE.out.1] at h1 h2 ⊢
        exact h1.step h2.2 h2.1, HE.out.2.2.trans (HD.out.2.mono (Nat.zero_le _) hlt)⟩, gr_cell hg2 c0 (by simp only; omega), gr_cell hg2 c1 (by simp only; omega), gr_trans hG hg2⟩
      case measure => simp [intOf]; omega
    · have hlt' : ¬ (A : Int) + 20 ≤ (n : Int) := by omega
      go_wp2_with fail
      refine (insertion_any hR.out HO.out A n _ _ rfl rfl _ e hW hA (Nat.le_refl _) hn).mono ?_
      rintro e1 w2 ⟨d2, rfl, hS2, HD, hg2⟩
      have q0 := gr_cell hg2 c0 (by simp only; omega)
      have q1 := gr_cell hg2 c1 (by simp only; omega)
      have hG2 := gr_trans hG hg2
      have hHi : Hi lt d2 20 n 0 ∧ Mv 0 n d d2 := by
        have h1 := HE.out.2.1
        have h2 := HD.out
        have h3 := HE.out.1
        refine ⟨?_, HE.out.2.2.trans (HD.out.2.mono (Nat.zero_le _) (Nat.le_refl _))⟩
        rw [h3] at h1 h2
        exact h1.last (by omega) h2.2 h2.1
      have HHi := Lib.hid hHi
      clear hHi HE HD hg2 c0 c1 hG hW hA hlt hlt'
      go_wp2_with fail
      go_loopw [4, 5, 6, 7] (fun sv _ _ _ wr => ∃ (bs : Nat) (e : Nat → α), 0 < bs ∧ bs ≤ 2 * n + 20 ∧ sv = .int .i64 (bs : Int) ∧ St wr e ∧ Hid (Hi lt e bs n 0 ∧ Mv 0 n d e) ∧ wr.cell? ⟨w.heap.size, 0, none⟩ = some (.func (.func g) #[] lb) ∧ wr.cell? ⟨w.heap.size, 1, none⟩ = some (.func (.func sf) #[] sb) ∧ w.grownBy wr (some row)) (fun sv _ _ _ _ => n - (intOf sv).toNat)
      case atStart => exact ⟨20, d2, by omega, by omega, rfl, hS2, HHi, q0, q1, hG2⟩
      case round =>
        clear q0 q1 hG2 hS2 HHi
        obtain ⟨bs, e, hb0, hb1, rfl, hW, HE, c0, c1, hG⟩ := hrel
        by_cases hbn : bs < n
        · have hbn' : (bs : Int) < (n : Int) := by omega
          obtain ⟨wo, rfl⟩ : ∃ wo : World, wo = wr := ⟨_, rfl⟩
          go_wp2_with fail
          go_loopw [5, 6] (fun av bv wr => ∃ (p A : Nat) (f : Nat → α), A ≤ n ∧ av = .int .i64 (A : Int) ∧ bv = .int .i64 ((A : Int) + 2 * (bs : Int)) ∧ St wr f ∧ Hid (A = p * (2 * bs) ∧ Lo lt f (2 * bs) A ∧ Hi lt f bs n A ∧ Mv 0 n d f) ∧ wr.cell? ⟨w.heap.size, 0, none⟩ = some (.func (.func g) #[] lb) ∧ wr.cell? ⟨w.heap.size, 1, none⟩ = some (.func (.func sf) #[] sb) ∧ w.grownBy wr (some row)) (fun av _ _ => n - (intOf av).toNat)
          case atStart => exact ⟨0, 0, e, Nat.zero_le _, rfl, by congr 1; omega, hW, Lib.hid ⟨by omega, fun q hq => by omega, HE.out.1, HE.out.2⟩, c0, c1, hG⟩
          case round =>
            clear c0 c1 hG hW
            obtain ⟨p, A, f, hA, rfl, rfl, hW, HF, c0, c1, hG⟩ := hrel
            have two : Hid (Srt lt f A (min (A + bs) n) ∧ Srt lt f (A + bs) (min (A + 2 * bs) n)) := Lib.hid (by
              have h1 := HF.out.2.2.1
              rw [HF.out.1] at h1 ⊢
              exact h1.two)
            by_cases hlt : A + 2 * bs ≤ n
            · have hlt' : (A : Int) + 2 * (bs : Int) ≤ (n : Int) := by omega
              go_wp2_with fail
              refine (symMerge_any hR.out HO.out hn A (A + bs) (A + 2 * bs) _ _ _ rfl (by omega) (by omega) _ f hW (by omega) (by omega) hlt (Lib.hid ⟨two.out.1.sub (Nat.le_refl _) (by omega), two.out.2.sub (Nat.le_refl _) (by omega)⟩)).mono ?_
              rintro e1 w2 ⟨d2, rfl, hS2, HD, hg2⟩
              go_wp2_with fail
              go_roundw
              case rel => exact ⟨p + 1, A + 2 * bs, d2, hlt, by congr 1 <;> omega, by congr 1 <;> omega, hS2, Lib.hid ⟨by rw [Nat.succ_mul p (2 * bs), ← HF.out.1], by
                have h1 := HF.out.2.1
                have h2 := HD.out
                rw [HF.out.1] at h1 h2 ⊢
                exact h1.step h2.2 h2.1, HF.out.2.2.1.step (by omega) HD.out.2, HF.out.2.2.2.trans (HD.out.2.mono (Nat.zero_le _) hlt)⟩, gr_cell hg2 c0 (by simp only; omega), gr_cell hg2 c1 (by simp only; omega), gr_trans hG hg2⟩
              case measure => simp [intOf]; omega
            · have hlt' : ¬ (A : Int) + 2 * (bs : Int) ≤ (n : Int) := by omega
              have fin : ∀ f' : Nat → α, Srt lt f' A n → Mv A n f f' → Hid (Hi lt f' (2 * bs) n 0 ∧ Mv 0 n d f') := fun f' s1 s2 => Lib.hid ⟨by
                have h1 := HF.out.2.1
                rw [HF.out.1] at h1 s1 s2
                exact h1.last (by have := HF.out.1; omega) s2 s1, HF.out.2.2.2.trans (s2.mono (Nat.zero_le _) (Nat.le_refl _))⟩
              have FIN := Lib.hid fin
              clear fin
              by_cases hm : A + bs < n
              · have hm' : (A : Int) + (bs : Int) < (n : Int) := by omega
                go_wp2_with fail
                refine (symMerge_any hR.out HO.out hn A (A + bs) n _ _ _ rfl (by omega) rfl _ f hW (by omega) hm (Nat.le_refl _) (Lib.hid ⟨two.out.1.sub (Nat.le_refl _) (by omega), two.out.2.sub (Nat.le_refl _) (by omega)⟩)).mono ?_
                rintro e1 w2 ⟨d2, rfl, hS2, HD, hg2⟩
                go_wp2_with fail
                go_roundw
                case rel => exact ⟨bs * 2, d2, by omega, by omega, by congr 1, hS2, by rw [Nat.mul_comm]; exact FIN.out d2 HD.out.1 HD.out.2, gr_cell hg2 c0 (by simp only; omega), gr_cell hg2 c1 (by simp only; omega), gr_trans hG hg2⟩
                case measure => simp [intOf]; omega
              · have hm' : ¬ (A : Int) + (bs : Int) < (n : Int) := by omega
                go_wp2_with fail
                go_roundw
                case rel => exact ⟨bs * 2, f, by omega, by omega, by congr 1, hW, by rw [Nat.mul_comm]; exact FIN.out f (two.out.1.sub (Nat.le_refl _) (by omega)) (Mv.refl _ _ _), c0, c1, hG⟩
                case measure => simp [intOf]; omega
        · have hbn' : ¬ (bs : Int) < (n : Int) := by omega
          go_wp2_with fail
          go_end0
          exact ⟨e, rfl, hW, Lib.hid ⟨by
            have h := HE.out.1 0 (Nat.zero_le _)
            rw [Nat.zero_mul] at h
            exact h.sub (Nat.le_refl _) (by omega), HE.out.2⟩, hG⟩
end Go.Proofs.Ytdmeinfdldiegaa
