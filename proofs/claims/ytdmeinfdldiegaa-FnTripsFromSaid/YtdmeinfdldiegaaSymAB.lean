/- The library's merge of two parts in place, where one part has one element. No condition. -/
import Derived.Test.YtdmeinfdldiegaaStableW
namespace Go.Proofs.Ytdmeinfdldiegaa
open Go.RowKit Go.PlainAid Go.Shelf
open SB
set_option maxRecDepth 100000
set_option linter.unusedVariables false
variable {α : Type}
set_option maxHeartbeats 3200000 in
theorem symA {g sf : Nat} {lb sb : Array Value} {lt : α → α → Bool} {n row : Nat} {St : World → (Nat → α) → Prop} (E : SEnv g sf lb sb lt n row St) (O : Ord lt) (hn : n < 1099511627776) (a m b : Nat) (w : World) (d : Nat → α) (h : St w d) (h1 : a < m) (h2 : m < b) (h3 : b ≤ n) (HSS : Hid (Srt lt d a m ∧ Srt lt d m b)) (hA : m - a = 1) :
    Calls Try.prog 75 #[.agg #[.func (.func g) #[] lb, .func (.func sf) #[] sb], .int .i64 (a : Int), .int .i64 (m : Int), .int .i64 (b : Int)] w (SPostS row St (fun d' => Srt lt d' a b ∧ Mv a b d d') w) := by
  have hrow := E.lt_ h
  have b0 : Below w.heap.size w (w.alloc (.cells #[.func (.func g) #[] lb, .func (.func sf) #[] sb] 86)) := (Below.refl _ _).alloc (Nat.le_refl _) _
  have hS := E.keep h b0
  have hR := Lib.hid E
  have HO := Lib.hid O
  have eg := E.enter
  have hGr := gr_below (gr_refl w row) b0
  have tA : ((m : Int) - (a : Int) == 1) = true := by simp; omega
  go_enter Try.func75, Try.ntmps75
  go_wp2_with fail
  obtain ⟨W, hW⟩ : ∃ W, W = w.alloc (.cells #[.func (.func g) #[] lb, .func (.func sf) #[] sb] 86) := ⟨_, rfl⟩
  rw [← hW] at hS hGr ⊢
  have c0 : W.cell? ⟨w.heap.size, 0, none⟩ = some (.func (.func g) #[] lb) := by rw [hW]; simp [go_sem]
  have c1 : W.cell? ⟨w.heap.size, 1, none⟩ = some (.func (.func sf) #[] sb) := by rw [hW]; simp [go_sem]
  clear hW b0
  go_loopw [8, 9, 10] (fun iv jv _ wr => ∃ (i j : Nat), m ≤ i ∧ i ≤ j ∧ j ≤ b ∧ iv = .int .i64 i ∧ jv = .int .i64 j ∧ St wr d ∧ Hid ((m < i → lt (d (i - 1)) (d a) = true) ∧ (j < b → lt (d j) (d a) = false)) ∧ wr.cell? ⟨w.heap.size, 0, none⟩ = some (.func (.func g) #[] lb) ∧ wr.cell? ⟨w.heap.size, 1, none⟩ = some (.func (.func sf) #[] sb) ∧ w.grownBy wr (some row)) (fun iv jv _ _ => (intOf jv).toNat - (intOf iv).toNat)
  case atStart => exact ⟨m, b, Nat.le_refl _, by omega, Nat.le_refl _, rfl, rfl, hS, Lib.hid ⟨fun h => by omega, fun h => by omega⟩, c0, c1, hGr⟩
  case round =>
    clear c0 c1 hGr hS
    obtain ⟨i, j, i0, i1, i2, rfl, rfl, hW, HJ, c0, c1, hG⟩ := hrel
    by_cases hij : i < j
    · have hij' : (i : Int) < (j : Int) := by omega
      obtain ⟨k, hk⟩ : ∃ k : Nat, k = (i + j) / 2 := ⟨_, rfl⟩
      have k0 : i ≤ k := by omega
      have k1 : k < j := by omega
      have hl := hR.out.less (w := wr) k a (((i : Int) + (j : Int)) / 2) (a : Int) (by omega) rfl hW (by omega) (by omega)
      cases hlv : lt (d k) (d a)
      · rw [hlv] at hl
        have HLV := Lib.hid hlv; clear hlv
        go_wp2_with fail
        refine hl.mono ?_
        rintro e' w' ⟨rfl, hb⟩
        clear hl
        go_wp2_with fail
        go_roundw
        case rel => exact ⟨i, k, i0, k0, by omega, rfl, by congr 1; omega, hR.out.keep hW hb, Lib.hid ⟨HJ.out.1, fun _ => HLV.out⟩, cell_keep hb c0, cell_keep hb c1, gr_below hG hb⟩
        case measure => simp [intOf]; omega
      · rw [hlv] at hl
        have HLV := Lib.hid hlv; clear hlv
        go_wp2_with fail
        refine hl.mono ?_
        rintro e' w' ⟨rfl, hb⟩
        clear hl
        go_wp2_with fail
        go_roundw
        case rel => exact ⟨k + 1, j, by omega, by omega, i2, by congr 1; omega, rfl, hR.out.keep hW hb, Lib.hid ⟨fun _ => HLV.out, HJ.out.2⟩, cell_keep hb c0, cell_keep hb c1, gr_below hG hb⟩
        case measure => simp [intOf]; omega
    · obtain rfl : i = j := by omega
      have hij' : ¬ (i : Int) < (i : Int) := by omega
      have fin : Srt lt (Up a (i - 1) d) a b := srt_up HO.out (HSS.out.2.sub (by omega) (Nat.le_refl _)) (by omega) i2 (fun h => HJ.out.1 (by omega)) HJ.out.2
      have FIN := Lib.hid (show Srt lt (Up a (i - 1) d) a b ∧ Mv a b d (Up a (i - 1) d) from ⟨fin, Up.mv d (by omega) (by omega)⟩)
      clear fin HJ HSS
      go_wp2_with fail
      go_loopw [11] (fun kv wr => ∃ (k : Nat) (e : Nat → α), a ≤ k ∧ k ≤ i - 1 ∧ kv = .int .i64 k ∧ St wr e ∧ Hid (e = Up a k d) ∧ wr.cell? ⟨w.heap.size, 0, none⟩ = some (.func (.func g) #[] lb) ∧ wr.cell? ⟨w.heap.size, 1, none⟩ = some (.func (.func sf) #[] sb) ∧ w.grownBy wr (some row)) (fun kv _ => i - (intOf kv).toNat)
      case atStart => exact ⟨a, d, Nat.le_refl _, by omega, rfl, hW, Lib.hid (Up.zero a d).symm, c0, c1, hG⟩
      case round =>
        clear c0 c1 hG hW
        obtain ⟨k, e, k0, k1, rfl, hW, HE, c0, c1, hG⟩ := hrel
        by_cases hki : k < i - 1
        · have hki' : (k : Int) < (i : Int) - 1 := by omega
          obtain ⟨w2, hrun, hS2, hg2⟩ := hR.out.swap k (k + 1) (k : Int) ((k : Int) + 1) rfl (by omega) hW (by omega) (by omega)
          have e2 : swp e k (k + 1) = Up a (k + 1) d := by rw [HE.out]; exact Up.succ d k0
          have HE2 := Lib.hid e2; clear e2
          go_wp2_with fail
          go_roundw
          case rel => exact ⟨k + 1, _, by omega, by omega, by go_num, hS2, HE2, gr_cell hg2 c0 (by simp only; omega), gr_cell hg2 c1 (by simp only; omega), gr_trans hG hg2⟩
          case measure => simp [intOf]; omega
        · obtain rfl : k = i - 1 := by omega
          have hki' : ¬ (((i - 1 : Nat) : Int)) < (i : Int) - 1 := by omega
          go_wp2_with fail
          go_end0
          exact ⟨e, rfl, hW, Lib.hid (by rw [HE.out]; exact FIN.out), hG⟩
set_option maxHeartbeats 3200000 in
theorem symB {g sf : Nat} {lb sb : Array Value} {lt : α → α → Bool} {n row : Nat} {St : World → (Nat → α) → Prop} (E : SEnv g sf lb sb lt n row St) (O : Ord lt) (hn : n < 1099511627776) (a m b : Nat) (w : World) (d : Nat → α) (h : St w d) (h1 : a < m) (h2 : m < b) (h3 : b ≤ n) (HSS : Hid (Srt lt d a m ∧ Srt lt d m b)) (hA : ¬ m - a = 1) (hB : b - m = 1) :
    Calls Try.prog 75 #[.agg #[.func (.func g) #[] lb, .func (.func sf) #[] sb], .int .i64 (a : Int), .int .i64 (m : Int), .int .i64 (b : Int)] w (SPostS row St (fun d' => Srt lt d' a b ∧ Mv a b d d') w) := by
  have hrow := E.lt_ h
  have b0 : Below w.heap.size w (w.alloc (.cells #[.func (.func g) #[] lb, .func (.func sf) #[] sb] 86)) := (Below.refl _ _).alloc (Nat.le_refl _) _
  have hS := E.keep h b0
  have hR := Lib.hid E
  have HO := Lib.hid O
  have eg := E.enter
  have hGr := gr_below (gr_refl w row) b0
  have tA : ((m : Int) - (a : Int) == 1) = false := by simp; omega
  have tB : ((b : Int) - (m : Int) == 1) = true := by simp; omega
  go_enter Try.func75, Try.ntmps75
  go_wp2_with fail
  obtain ⟨W, hW⟩ : ∃ W, W = w.alloc (.cells #[.func (.func g) #[] lb, .func (.func sf) #[] sb] 86) := ⟨_, rfl⟩
  rw [← hW] at hS hGr ⊢
  have c0 : W.cell? ⟨w.heap.size, 0, none⟩ = some (.func (.func g) #[] lb) := by rw [hW]; simp [go_sem]
  have c1 : W.cell? ⟨w.heap.size, 1, none⟩ = some (.func (.func sf) #[] sb) := by rw [hW]; simp [go_sem]
  clear hW b0
  go_loopw [12, 13, 14] (fun iv jv _ wr => ∃ (i j : Nat), a ≤ i ∧ i ≤ j ∧ j ≤ m ∧ iv = .int .i64 i ∧ jv = .int .i64 j ∧ St wr d ∧ Hid ((a < i → lt (d m) (d (i - 1)) = false) ∧ (j < m → lt (d m) (d j) = true)) ∧ wr.cell? ⟨w.heap.size, 0, none⟩ = some (.func (.func g) #[] lb) ∧ wr.cell? ⟨w.heap.size, 1, none⟩ = some (.func (.func sf) #[] sb) ∧ w.grownBy wr (some row)) (fun iv jv _ _ => (intOf jv).toNat - (intOf iv).toNat)
  case atStart => exact ⟨a, m, Nat.le_refl _, by omega, Nat.le_refl _, rfl, rfl, hS, Lib.hid ⟨fun h => by omega, fun h => by omega⟩, c0, c1, hGr⟩
  case round =>
    clear c0 c1 hGr hS
    obtain ⟨i, j, i0, i1, i2, rfl, rfl, hW, HJ, c0, c1, hG⟩ := hrel
    by_cases hij : i < j
    · have hij' : (i : Int) < (j : Int) := by omega
      obtain ⟨k, hk⟩ : ∃ k : Nat, k = (i + j) / 2 := ⟨_, rfl⟩
      have k0 : i ≤ k := by omega
      have k1 : k < j := by omega
      have hl := hR.out.less (w := wr) m k (m : Int) (((i : Int) + (j : Int)) / 2) rfl (by omega) hW (by omega) (by omega)
      cases hlv : lt (d m) (d k)
      · rw [hlv] at hl
        have HLV := Lib.hid hlv; clear hlv
        go_wp2_with fail
        refine hl.mono ?_
        rintro e' w' ⟨rfl, hb⟩
        clear hl
        go_wp2_with fail
        go_roundw
        case rel => exact ⟨k + 1, j, by omega, by omega, i2, by congr 1; omega, rfl, hR.out.keep hW hb, Lib.hid ⟨fun _ => HLV.out, HJ.out.2⟩, cell_keep hb c0, cell_keep hb c1, gr_below hG hb⟩
        case measure => simp [intOf]; omega
      · rw [hlv] at hl
        have HLV := Lib.hid hlv; clear hlv
        go_wp2_with fail
        refine hl.mono ?_
        rintro e' w' ⟨rfl, hb⟩
        clear hl
        go_wp2_with fail
        go_roundw
        case rel => exact ⟨i, k, i0, k0, by omega, rfl, by congr 1; omega, hR.out.keep hW hb, Lib.hid ⟨HJ.out.1, fun _ => HLV.out⟩, cell_keep hb c0, cell_keep hb c1, gr_below hG hb⟩
        case measure => simp [intOf]; omega
    · obtain rfl : i = j := by omega
      have hij' : ¬ (i : Int) < (i : Int) := by omega
      have fin : Srt lt (Dn i m d) a (m + 1) := srt_dn HO.out HSS.out.1 i0 i2 HJ.out.1 HJ.out.2
      have FIN := Lib.hid (show Srt lt (Dn i m d) a b ∧ Mv a b d (Dn i m d) from ⟨by rw [show b = m + 1 by omega]; exact fin, Dn.mv d i2 i0 h2⟩)
      clear fin HJ HSS
      go_wp2_with fail
      go_loopw [15] (fun kv wr => ∃ (k : Nat) (e : Nat → α), i ≤ k ∧ k ≤ m ∧ kv = .int .i64 k ∧ St wr e ∧ Hid (e = Dn k m d) ∧ wr.cell? ⟨w.heap.size, 0, none⟩ = some (.func (.func g) #[] lb) ∧ wr.cell? ⟨w.heap.size, 1, none⟩ = some (.func (.func sf) #[] sb) ∧ w.grownBy wr (some row)) (fun kv _ => (intOf kv).toNat)
      case atStart => exact ⟨m, d, i2, Nat.le_refl _, rfl, hW, Lib.hid (Dn.zero m d).symm, c0, c1, hG⟩
      case round =>
        clear c0 c1 hG hW
        obtain ⟨k, e, k0, k1, rfl, hW, HE, c0, c1, hG⟩ := hrel
        by_cases hki : i < k
        · have hki' : (i : Int) < (k : Int) := by omega
          obtain ⟨w2, hrun, hS2, hg2⟩ := hR.out.swap k (k - 1) (k : Int) ((k : Int) - 1) rfl (by omega) hW (by omega) (by omega)
          have e2 : swp e k (k - 1) = Dn (k - 1) m d := by
            rw [HE.out]
            have := Dn.succ (k := k - 1) (m := m) d (by omega)
            rwa [show k - 1 + 1 = k by omega] at this
          have HE2 := Lib.hid e2; clear e2
          go_wp2_with fail
          go_roundw
          case rel => exact ⟨k - 1, _, by omega, by omega, by congr 1; omega, hS2, HE2, gr_cell hg2 c0 (by simp only; omega), gr_cell hg2 c1 (by simp only; omega), gr_trans hG hg2⟩
          case measure => simp [intOf]; omega
        · obtain rfl : k = i := by omega
          have hki' : ¬ (k : Int) < (k : Int) := by omega
          go_wp2_with fail
          go_end0
          exact ⟨e, rfl, hW, Lib.hid (by rw [HE.out]; exact FIN.out), hG⟩
end Go.Proofs.Ytdmeinfdldiegaa
