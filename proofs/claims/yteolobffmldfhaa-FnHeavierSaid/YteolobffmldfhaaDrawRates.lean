/- What the reference's draw of rates answers. No condition. -/
import Derived.Test.YteolobffmldfhaaDrawAny
import Derived.Test.YteolobffmldfhaaRecRate
import Derived.Deep.RegionWith
namespace Go.Proofs.Yteolobffmldfhaa
open Go.RowKit Go.PlainAid
set_option maxRecDepth 100000
set_option linter.unusedVariables false
theorem info_Rate3 : (Try.prog.info? 87).map (fun i => (i.zero, i.size, i.bytes)) = some (some (.agg #[.int .i64 0, .int .i64 0, .int .i64 0, .int .i64 0]), 4, 32) := by kernel_rfl
def RatesOk (ys : List RateD) : Prop := ys.length ≤ 24 ∧ ∀ y ∈ ys, (0 ≤ y.zone ∧ y.zone ≤ 1000) ∧ (1 ≤ y.service ∧ y.service ≤ 3) ∧ (0 ≤ y.limit ∧ y.limit ≤ 1000 + 20001 * (ys.length : Int)) ∧ (0 ≤ y.price ∧ y.price ≤ 4000)
theorem RatesOk.ok {ys : List RateD} (h : RatesOk ys) : ∀ y ∈ ys, y.ok := by
  intro y hy
  obtain ⟨h1, h2, h3, h4⟩ := h.2 y hy
  have := h.1
  unfold RateD.ok okI
  omega
theorem RatesOk.snoc {ys : List RateD} (h : RatesOk ys) (hl : ys.length < 24) {z s l p : Int} (hz : 0 ≤ z ∧ z ≤ 1000) (hs : 1 ≤ s ∧ s ≤ 3) (hlm : 0 ≤ l ∧ l ≤ 1000 + 20001 * ((ys.length : Int) + 1)) (hp : 0 ≤ p ∧ p ≤ 4000) : RatesOk (ys ++ [⟨z, s, l, p⟩]) := by
  refine ⟨by rw [List.length_append]; show _ + 1 ≤ 24; omega, fun y hy => ?_⟩
  have e : ((ys ++ [(⟨z, s, l, p⟩ : RateD)]).length : Int) = (ys.length : Int) + 1 := by rw [List.length_append]; rfl
  rw [e]
  rcases List.mem_append.1 hy with q | q
  · obtain ⟨h1, h2, h3, h4⟩ := h.2 y q
    exact ⟨h1, h2, by omega, h4⟩
  · rw [List.mem_singleton.1 q]; exact ⟨hz, hs, hlm, hp⟩
/-- A row of rates of the call's own, and the cursor. -/
def RatesAt (C : Nat) (w wr : World) (lv : Value) : Prop := ∃ ys : List RateD, Own wr w.heap.size 87 4 RateD.vals lv ys ∧ RatesOk ys ∧ Cur C wr ∧ Saves C w wr
theorem own_rate {w : World} {base : Nat} {v : Value} {xs : List RateD} {a b c d : Int} (h : w.ownsRow base 87 4 v (xs.length + 1) (xs.flatMap RateD.vals ++ [.int .i64 a, .int .i64 b, .int .i64 c, .int .i64 d])) : Own w base 87 4 RateD.vals v (xs ++ [⟨a, b, c, d⟩]) := by
  unfold Own
  rw [List.flatMap_append, List.length_append]
  exact h
theorem Own.savedR {α : Type} {w w' : World} {base size C : Nat} {e : TypeId} {vals : α → List Value} {v : Value} {xs : List α} (h : Own w base e size vals v xs) (hC : C < base) (s : Saves C w w') : Own w' base e size vals v xs := by
  refine ⟨h.1, ?_⟩
  rcases h.2 with h0 | ⟨g, cap, cur, hv, hbg, hg, r⟩
  · exact .inl h0
  · exact .inr ⟨g, cap, cur, hv, hbg, by rw [s.block g (Array.getElem?_eq_some_iff.1 hg).1 (by omega)]; exact hg, r⟩
theorem own_block {α : Type} {w : World} {base size b off n c : Nat} {e : TypeId} {vals : α → List Value} {xs : List α} (h : Own w base e size vals (.slice (some ⟨b, off, none⟩) n c) xs) : base ≤ b := by
  rcases h.2 with ⟨e1, -⟩ | ⟨g, cap, cur, hv, hbg, -⟩
  · cases e1
  · injection hv with h1; injection h1 with h1; injection h1 with h1; omega
set_option maxHeartbeats 6400000 in
theorem rates_any (C zn : Nat) (w : World) (hc : Cur C w) (hzn : zn ≤ 1000) : Calls Try.prog 70 #[.pointer (some ⟨C, 0, none⟩), .int .i64 (zn : Int)] w fun e w' => ∃ v, e = .returned v ∧ RatesAt C w w' v := by
  have lt := hc.lt
  obtain ⟨i0, hi, hz0, hz1, hz2⟩ := info_parts info_Rate3
  have hE : Own (w.alloc (.cells #[] 87)) w.heap.size 87 4 RateD.vals (.slice (some ⟨w.heap.size, 0, none⟩) 0 0) [] := ⟨rfl, .inr ⟨w.heap.size, 0, #[], rfl, Nat.le_refl _, by show (w.heap.push _)[w.heap.size]? = _; simp, Nat.le_refl _, by unfold maxLen; omega, rfl, rfl⟩⟩
  have b0 : Below w.heap.size w (w.alloc (.cells #[] 87)) := by go_grown
  go_enter Try.func70, Try.ntmps70
  go_wp2_with fail
  go_loopw [5, 6] (fun lv zv wr => ∃ z : Nat, z ≤ zn ∧ zv = .int .i64 z ∧ RatesAt C w wr lv) (fun _ zv _ => zn - (intOf zv).toNat)
  case atStart => exact ⟨0, Nat.zero_le _, rfl, [], hE, ⟨by simp, by simp⟩, hc.keep b0, Saves.of_below b0⟩
  case round =>
    obtain ⟨z, hz, rfl, hR⟩ := hrel
    obtain ⟨wo, rfl⟩ : ∃ wo : World, wo = wr := ⟨_, rfl⟩
    by_cases hlz : z < zn
    · have HR := Lib.hid hR
      clear hR
      go_wp2_with fail
      go_loopw [5, 7] (fun lv sv wr => ∃ s : Nat, 1 ≤ s ∧ s ≤ 4 ∧ sv = .int .i64 s ∧ RatesAt C w wr lv) (fun _ sv _ => 4 - (intOf sv).toNat)
      case atStart => exact ⟨1, by omega, by omega, rfl, HR.out⟩
      case round =>
        obtain ⟨s, hs1, hs4, rfl, hR⟩ := hrel
        obtain ⟨wp, rfl⟩ : ∃ wp : World, wp = wr := ⟨_, rfl⟩
        by_cases hls : s ≤ 3
        · have hls' : (s : Int) ≤ 3 := by omega
          obtain ⟨ys, hO, hok, hC, hS⟩ := hR
          go_wp2_with fail
          refine (below_any C 900 _ hC (by unfold okI; omega)).mono ?_
          rintro e w1 ⟨x, rfl, x0, -, x2, c1, s1⟩
          have x3 := x2 (by omega)
          go_wp2_with fail
          refine (below_at (w0 := wp) 4 (by omega) (by omega) c1 s1).mono ?_
          rintro e w2 ⟨k0, rfl, hk4, c2, s2, -⟩
          have R2 : RatesAt C w w2 _ := ⟨ys, hO.savedR lt s2, hok, c2, hS.trans s2⟩
          have HR2 := Lib.hid R2
          clear R2 hO hok hC hS s1 s2 c1 c2
          go_wp2_with fail
          go_loopw [5, 8, 9] (fun lv pv kv wr => ∃ (k : Nat) (p : Int), k ≤ 3 ∧ kv = .int .i64 k ∧ pv = .int .i64 p ∧ 0 ≤ p ∧ p ≤ 1199 + 500 * (3 - (k : Int)) ∧ RatesAt C w wr lv) (fun _ _ kv _ => (intOf kv).toNat)
          case atStart => exact ⟨k0, 300 + x, by omega, rfl, rfl, by omega, by omega, HR2.out⟩
          case round =>
            obtain ⟨k, p, hk3, rfl, rfl, hp0, hp1, ys, hO, hok, hC, hS⟩ := hrel
            obtain ⟨A, cp, rfl, hl1, hl2⟩ := hO.form
            unfold maxLen at hl2
            by_cases hk : 0 < k
            · have hk' : (0 : Int) < (k : Int) := by omega
              by_cases hlen : ys.length < 24
              · have hlen' : (ys.length : Int) < 24 := by omega
                have hLen := Lib.hid (show ys.length < 24 from hlen)
                obtain ⟨n, hn⟩ : ∃ n, n = ys.length := ⟨_, rfl⟩
                rw [← hn] at hl1 hlen' ⊢
                have hO' : Own wr w.heap.size 87 4 RateD.vals (.slice A n cp) ys := by rw [hn]; exact hO
                have hOn : wr.ownsRow w.heap.size 87 4 (.slice A n cp) ys.length (ys.flatMap RateD.vals) := hO'
                have hN := Lib.hid hn
                have hnl : n < 24 := by omega
                have hy24 : ys.length < 24 := hlen
                clear hO hn
                rcases n with _ | m
                · go_wp2_with (at_builtin; refine wpList_append_own _ rfl (.tmp 70) (.tmp 76) 48 rfl w.heap.size 87 i0 (.agg #[.int .i64 0, .int .i64 0, .int .i64 0, .int .i64 0]) 4 32 Try.underlying48 hi hz0 hz1 hz2 rfl (by decide) _ _ _ rfl (World.ownsRow.alloc hOn _) _ 1 1 [.int .i64 z, .int .i64 s, .int .i64 (1000), .int .i64 p] rfl rfl ?c1a ?c2a ?c3a ?c4a ?c5a ?_)
                  try (case c1a =>
                    intro j u hj
                    match j, hj with
                    | 0, hj => simp at hj; subst hj; simp [go_sem, Addr.add]
                    | 1, hj => simp at hj; subst hj; simp [go_sem, Addr.add]
                    | 2, hj => simp at hj; subst hj; simp [go_sem, Addr.add]
                    | 3, hj => simp at hj; subst hj; simp [go_sem, Addr.add])
                  case c2a => first | (intro u hu; simp at hu; rcases hu with rfl | rfl | rfl | rfl <;> rfl) | exact ⟨rfl, rfl, rfl, rfl⟩
                  case c3a => first | (unfold maxLen; omega) | omega
                  case c4a => omega
                  case c5a => have := hS.size; simp; omega
                  intro v' w7 hown' hgrow _
                  have zz := hS.size
                  have B7 : Below w.heap.size wr w7 := ((Below.refl w.heap.size wr).alloc zz _).grown hgrow (by simp; omega) (fun g q => (World.ownsRow.lt hOn g q).1)
                  have o7 : Own w7 w.heap.size 87 4 RateD.vals v' (ys ++ [⟨z, s, 1000, p⟩]) := own_rate hown'
                  have k7 : RatesOk (ys ++ [⟨z, s, 1000, p⟩]) := hok.snoc hlen (by omega) (by omega) (by omega) (by omega)
                  have c7 := hC.keepB B7 lt
                  have S7 := hS.belowR B7 (Nat.le_refl _)
                  clear hown' hgrow B7
                  go_wp2_with fail
                  refine (below_at (w0 := w) 500 (by omega) (by omega) c7 S7).mono ?_
                  rintro e w8 ⟨r8, rfl, h8, c8, S8, s8⟩
                  have o8 := o7.savedR lt s8
                  go_wp2_with fail
                  go_roundw
                  case rel => exact ⟨k - 1, p + (r8 : Int), by omega, by congr 1; omega, rfl, by omega, by omega, _, o8, k7, c8, S8⟩
                  case measure => simp [intOf]; omega
                · obtain ⟨b_, off, y, rfl, hb_, hy, hcl⟩ := (show SliceOf wr 4 RateD.vals (.slice A (m + 1) cp) ys from hO'.slice Rate_len (by omega)).cells (k := m) (by have := hN.out; omega)
                  have hyb := hok.2 y (mem_of hy.out)
                  obtain ⟨y0, y1, y2, y3⟩ := y
                  simp only at hyb
                  have d0 := hcl 0 _ rfl
                  have d1 := hcl 1 _ rfl
                  have d2 := hcl 2 _ rfl
                  simp only [Nat.add_zero] at d0
                  have hlb : y2 ≤ 1000 + 20001 * (ys.length : Int) := hyb.2.2.1.2
                  have hl0 : 0 ≤ y2 := hyb.2.2.1.1
                  clear hcl hyb
                  have nbC : b_ ≠ C := by have := own_block hO'; omega
                  have wm : IntKind.i64.wrap (m : Int) = (m : Int) := IntWalk.i64_in _ (by omega)
                  have hm0 : (0 : Int) ≤ (m : Int) := by omega
                  have hm1 : (m : Int) < ((m + 1 : Nat) : Int) := by omega
                  have hmp : (0 : Int) < ((m + 1 : Nat) : Int) := by omega
                  cases q0 : (y0 == (z : Int))
                  · go_wp2_with (at_builtin; refine wpList_append_own _ rfl (.tmp 70) (.tmp 76) 48 rfl w.heap.size 87 i0 (.agg #[.int .i64 0, .int .i64 0, .int .i64 0, .int .i64 0]) 4 32 Try.underlying48 hi hz0 hz1 hz2 rfl (by decide) _ _ _ rfl (World.ownsRow.alloc hOn _) _ 1 1 [.int .i64 z, .int .i64 s, .int .i64 (1000), .int .i64 p] rfl rfl ?c1b ?c2b ?c3b ?c4b ?c5b ?_)
                    try (case c1b =>
                      intro j u hj
                      match j, hj with
                      | 0, hj => simp at hj; subst hj; simp [go_sem, Addr.add]
                      | 1, hj => simp at hj; subst hj; simp [go_sem, Addr.add]
                      | 2, hj => simp at hj; subst hj; simp [go_sem, Addr.add]
                      | 3, hj => simp at hj; subst hj; simp [go_sem, Addr.add])
                    case c2b => first | (intro u hu; simp at hu; rcases hu with rfl | rfl | rfl | rfl <;> rfl) | exact ⟨rfl, rfl, rfl, rfl⟩
                    case c3b => first | (unfold maxLen; omega) | omega
                    case c4b => omega
                    case c5b => have := hS.size; simp; omega
                    intro v' w7 hown' hgrow _
                    have zz := hS.size
                    have B7 : Below w.heap.size wr w7 := ((Below.refl w.heap.size wr).alloc zz _).grown hgrow (by simp; omega) (fun g q => (World.ownsRow.lt hOn g q).1)
                    have o7 : Own w7 w.heap.size 87 4 RateD.vals v' (ys ++ [⟨z, s, 1000, p⟩]) := own_rate hown'
                    have k7 : RatesOk (ys ++ [⟨z, s, 1000, p⟩]) := hok.snoc hlen (by omega) (by omega) (by omega) (by omega)
                    have c7 := hC.keepB B7 lt
                    have S7 := hS.belowR B7 (Nat.le_refl _)
                    clear hown' hgrow B7
                    go_wp2_with fail
                    refine (below_at (w0 := w) 500 (by omega) (by omega) c7 S7).mono ?_
                    rintro e w8 ⟨r8, rfl, h8, c8, S8, s8⟩
                    have o8 := o7.savedR lt s8
                    go_wp2_with fail
                    go_roundw
                    case rel => exact ⟨k - 1, p + (r8 : Int), by omega, by congr 1; omega, rfl, by omega, by omega, _, o8, k7, c8, S8⟩
                    case measure => simp [intOf]; omega
                  cases q1 : (y1 == (s : Int))
                  · go_wp2_with (at_builtin; refine wpList_append_own _ rfl (.tmp 70) (.tmp 76) 48 rfl w.heap.size 87 i0 (.agg #[.int .i64 0, .int .i64 0, .int .i64 0, .int .i64 0]) 4 32 Try.underlying48 hi hz0 hz1 hz2 rfl (by decide) _ _ _ rfl (World.ownsRow.alloc hOn _) _ 1 1 [.int .i64 z, .int .i64 s, .int .i64 (1000), .int .i64 p] rfl rfl ?c1c ?c2c ?c3c ?c4c ?c5c ?_)
                    try (case c1c =>
                      intro j u hj
                      match j, hj with
                      | 0, hj => simp at hj; subst hj; simp [go_sem, Addr.add]
                      | 1, hj => simp at hj; subst hj; simp [go_sem, Addr.add]
                      | 2, hj => simp at hj; subst hj; simp [go_sem, Addr.add]
                      | 3, hj => simp at hj; subst hj; simp [go_sem, Addr.add])
                    case c2c => first | (intro u hu; simp at hu; rcases hu with rfl | rfl | rfl | rfl <;> rfl) | exact ⟨rfl, rfl, rfl, rfl⟩
                    case c3c => first | (unfold maxLen; omega) | omega
                    case c4c => omega
                    case c5c => have := hS.size; simp; omega
                    intro v' w7 hown' hgrow _
                    have zz := hS.size
                    have B7 : Below w.heap.size wr w7 := ((Below.refl w.heap.size wr).alloc zz _).grown hgrow (by simp; omega) (fun g q => (World.ownsRow.lt hOn g q).1)
                    have o7 : Own w7 w.heap.size 87 4 RateD.vals v' (ys ++ [⟨z, s, 1000, p⟩]) := own_rate hown'
                    have k7 : RatesOk (ys ++ [⟨z, s, 1000, p⟩]) := hok.snoc hlen (by omega) (by omega) (by omega) (by omega)
                    have c7 := hC.keepB B7 lt
                    have S7 := hS.belowR B7 (Nat.le_refl _)
                    clear hown' hgrow B7
                    go_wp2_with fail
                    refine (below_at (w0 := w) 500 (by omega) (by omega) c7 S7).mono ?_
                    rintro e w8 ⟨r8, rfl, h8, c8, S8, s8⟩
                    have o8 := o7.savedR lt s8
                    go_wp2_with fail
                    go_roundw
                    case rel => exact ⟨k - 1, p + (r8 : Int), by omega, by congr 1; omega, rfl, by omega, by omega, _, o8, k7, c8, S8⟩
                    case measure => simp [intOf]; omega
                  have wq1 : IntKind.i64.wrap (y2 + 1) = y2 + 1 := IntWalk.i64_in _ (by omega)
                  go_wp2_with fail
                  go_region_with (go_at_call 57; refine (below_at (w0 := w) 20000 (by omega) (by omega) (cur_drew hC) hS.drew).mono ?_; rintro e w6 ⟨r6, rfl, h6, c6, S6, s6⟩; have d6 := Saves.at' s6 d2 nbC; have wq2 : IntKind.i64.wrap (y2 + 1 + (r6 : Int)) = y2 + 1 + (r6 : Int) := IntWalk.i64_in _ (by omega))
                  all_goals
                    have hO6 : w6.ownsRow w.heap.size 87 4 (.slice (some ⟨b_, off, none⟩) (m + 1) cp) ys.length (ys.flatMap RateD.vals) := Own.savedR (show Own wr.drew w.heap.size 87 4 RateD.vals _ ys from hO') lt s6
                    go_wp2_with (at_builtin; refine wpList_append_own _ rfl (.tmp 70) (.tmp 76) 48 rfl w.heap.size 87 i0 (.agg #[.int .i64 0, .int .i64 0, .int .i64 0, .int .i64 0]) 4 32 Try.underlying48 hi hz0 hz1 hz2 rfl (by decide) _ _ _ rfl (World.ownsRow.alloc hO6 _) _ 1 1 [.int .i64 z, .int .i64 s, .int .i64 (y2 + 1 + (r6 : Int)), .int .i64 p] rfl rfl ?c1d ?c2d ?c3d ?c4d ?c5d ?_)
                    try (case c1d =>
                      intro j u hj
                      match j, hj with
                      | 0, hj => simp at hj; subst hj; simp [go_sem, Addr.add]
                      | 1, hj => simp at hj; subst hj; simp [go_sem, Addr.add]
                      | 2, hj => simp at hj; subst hj; simp [go_sem, Addr.add]
                      | 3, hj => simp at hj; subst hj; simp [go_sem, Addr.add])
                    case c2d => first | (intro u hu; simp at hu; rcases hu with rfl | rfl | rfl | rfl <;> rfl) | exact ⟨rfl, rfl, rfl, rfl⟩
                    case c3d => first | (unfold maxLen; omega) | omega
                    case c4d => omega
                    case c5d => have := S6.size; simp; omega
                    intro v' w7 hown' hgrow _
                    have zz := S6.size
                    have B7 : Below w.heap.size w6 w7 := ((Below.refl w.heap.size w6).alloc zz _).grown hgrow (by simp; omega) (fun g q => (World.ownsRow.lt hO6 g q).1)
                    have o7 : Own w7 w.heap.size 87 4 RateD.vals v' (ys ++ [⟨z, s, y2 + 1 + (r6 : Int), p⟩]) := own_rate hown'
                    have k7 : RatesOk (ys ++ [⟨z, s, y2 + 1 + (r6 : Int), p⟩]) := hok.snoc hlen (by omega) (by omega) (by omega) (by omega)
                    have c7 := c6.keepB B7 lt
                    have S7 := S6.belowR B7 (Nat.le_refl _)
                    clear hown' hgrow B7
                    go_wp2_with fail
                    refine (below_at (w0 := w) 500 (by omega) (by omega) c7 S7).mono ?_
                    rintro e w8 ⟨r8, rfl, h8, c8, S8, s8⟩
                    have o8 := o7.savedR lt s8
                    go_wp2_with fail
                    go_roundw
                    case rel => exact ⟨k - 1, p + (r8 : Int), by omega, by congr 1; omega, rfl, by omega, by omega, _, o8, k7, c8, S8⟩
                    case measure => simp [intOf]; omega
              · have hlen' : ¬ (ys.length : Int) < 24 := by omega
                go_wp2_with fail
                go_roundw
                case rel => exact ⟨s + 1, by omega, by omega, by go_num, ys, hO, hok, hC, hS⟩
                case measure => simp [intOf]; omega
            · have hk' : ¬ (0 : Int) < (k : Int) := by omega
              go_wp2_with fail
              go_roundw
              case rel => exact ⟨s + 1, by omega, by omega, by go_num, ys, hO, hok, hC, hS⟩
              case measure => simp [intOf]; omega
        · have hls' : ¬ (s : Int) ≤ 3 := by omega
          go_wp2_with fail
          go_roundw
          case rel => exact ⟨z + 1, by omega, by go_num, hR⟩
          case measure => simp [intOf]; omega
    · have HR := Lib.hid hR
      clear hR
      go_wp2_with fail
      go_ret
      exact ⟨_, rfl, HR.out⟩
end Go.Proofs.Yteolobffmldfhaa
