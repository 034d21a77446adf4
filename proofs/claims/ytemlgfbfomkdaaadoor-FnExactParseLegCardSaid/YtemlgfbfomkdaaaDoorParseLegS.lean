/- What the reference's ParseLeg answers. No condition. -/
import Derived.Test.YtemlgfbfomkdaaaDoorParseLeg
import Derived.RegionTactic
namespace Go.Proofs.YtemlgfbfomkdaaaDoor
open Go.RowKit Go.PlainAid
set_option maxRecDepth 100000
set_option linter.unusedVariables false
theorem cell_allocG {w : World} {p : Addr} {v : Value} (h : w.cell? p = some v) (o : Obj) : (w.alloc o).cell? p = some v := cell_keep ((Below.refl _ _).alloc (Nat.le_refl _) o) h
theorem cell_drewG {w : World} {p : Addr} {v : Value} (h : w.cell? p = some v) : w.drew.cell? p = some v := h
theorem cell_setG {w : World} {p q : Addr} {v : Value} (h : w.cell? p = some v) (hq : p.block ≠ q.block) (u : Value) : (w.setCell q u).cell? p = some v := by
  rw [← h]
  exact World.cell?_of_block (w := w) (Below.heap_setCell w q u p.block hq)
theorem below_allocG {a w : World} (h : Below a.heap.size a w) (o : Obj) : Below a.heap.size a (w.alloc o) := h.alloc h.size o
theorem newlegX {w' : World} {g : Nat} (h : Box w' g 30 #[.string ⟨#[]⟩, .string ⟨#[]⟩, .int .i64 0, .int .i64 0, .int .i64 0, .int .i64 0]) : w'.cell? ⟨g, 0, none⟩ = some (.string ⟨#[]⟩) ∧ w'.cell? ⟨g, 1, none⟩ = some (.string ⟨#[]⟩) ∧ w'.cell? ⟨g, 2, none⟩ = some (.int .i64 0) ∧ w'.cell? ⟨g, 3, none⟩ = some (.int .i64 0) ∧ w'.cell? ⟨g, 4, none⟩ = some (.int .i64 0) ∧ w'.cell? ⟨g, 5, none⟩ = some (.int .i64 0) ∧ ∀ j, w'.frozen? ⟨g, j, none⟩ = false :=
  ⟨h.cell 0, h.cell 1, h.cell 2, h.cell 3, h.cell 4, h.cell 5, fun j => h.frozen j⟩
theorem newlegA {w w' : World} (b : Below (w.alloc (.cells #[.string ⟨#[]⟩, .string ⟨#[]⟩, .int .i64 0, .int .i64 0, .int .i64 0, .int .i64 0] 30)).heap.size (w.alloc (.cells #[.string ⟨#[]⟩, .string ⟨#[]⟩, .int .i64 0, .int .i64 0, .int .i64 0, .int .i64 0] 30)) w') : w'.cell? ⟨w.heap.size, 0, none⟩ = some (.string ⟨#[]⟩) ∧ w'.cell? ⟨w.heap.size, 1, none⟩ = some (.string ⟨#[]⟩) ∧ w'.cell? ⟨w.heap.size, 2, none⟩ = some (.int .i64 0) ∧ w'.cell? ⟨w.heap.size, 3, none⟩ = some (.int .i64 0) ∧ w'.cell? ⟨w.heap.size, 4, none⟩ = some (.int .i64 0) ∧ w'.cell? ⟨w.heap.size, 5, none⟩ = some (.int .i64 0) ∧ ∀ j, w'.frozen? ⟨w.heap.size, j, none⟩ = false := newlegX ((Box.new w _ _).keep b)
theorem newlegB {w w' : World} (b : Below (w.alloc (.cells #[.string ⟨#[]⟩, .string ⟨#[]⟩, .int .i64 0, .int .i64 0, .int .i64 0, .int .i64 0] 30)).drew.heap.size (w.alloc (.cells #[.string ⟨#[]⟩, .string ⟨#[]⟩, .int .i64 0, .int .i64 0, .int .i64 0, .int .i64 0] 30)).drew w') : w'.cell? ⟨w.heap.size, 0, none⟩ = some (.string ⟨#[]⟩) ∧ w'.cell? ⟨w.heap.size, 1, none⟩ = some (.string ⟨#[]⟩) ∧ w'.cell? ⟨w.heap.size, 2, none⟩ = some (.int .i64 0) ∧ w'.cell? ⟨w.heap.size, 3, none⟩ = some (.int .i64 0) ∧ w'.cell? ⟨w.heap.size, 4, none⟩ = some (.int .i64 0) ∧ w'.cell? ⟨w.heap.size, 5, none⟩ = some (.int .i64 0) ∧ ∀ j, w'.frozen? ⟨w.heap.size, j, none⟩ = false := newlegX ((Box.new w _ _).drew.keep b)
theorem newlegC {w w' : World} (b : Below (w.drew.alloc (.cells #[.string ⟨#[]⟩, .string ⟨#[]⟩, .int .i64 0, .int .i64 0, .int .i64 0, .int .i64 0] 30)).heap.size (w.drew.alloc (.cells #[.string ⟨#[]⟩, .string ⟨#[]⟩, .int .i64 0, .int .i64 0, .int .i64 0, .int .i64 0] 30)) w') : w'.cell? ⟨w.heap.size, 0, none⟩ = some (.string ⟨#[]⟩) ∧ w'.cell? ⟨w.heap.size, 1, none⟩ = some (.string ⟨#[]⟩) ∧ w'.cell? ⟨w.heap.size, 2, none⟩ = some (.int .i64 0) ∧ w'.cell? ⟨w.heap.size, 3, none⟩ = some (.int .i64 0) ∧ w'.cell? ⟨w.heap.size, 4, none⟩ = some (.int .i64 0) ∧ w'.cell? ⟨w.heap.size, 5, none⟩ = some (.int .i64 0) ∧ ∀ j, w'.frozen? ⟨w.heap.size, j, none⟩ = false := newlegX ((Box.new w.drew _ _).keep b)
set_option maxHeartbeats 6400000 in
theorem parseLegS (s : ByteArray) (w : World) (hs : s.size ≤ 16777216) (ht : Tabs w) : Calls Tryd.prog 15 #[.string s] w (LegPost s.data.toList w) := by
  have hl := data_len s
  have hs' : s.data.toList.length ≤ 16777216 := by omega
  clear hl
  go_enter Tryd.func15, Tryd.ntmps15
  go_wp2_with fail
  obtain ⟨W, hW⟩ : ∃ W, W = w.alloc (.cells #[.string ⟨#[]⟩, .string ⟨#[]⟩, .int .i64 0, .int .i64 0, .int .i64 0, .int .i64 0] 30) := ⟨_, rfl⟩
  try rw [← hW]
  have P : Box W w.heap.size 30 #[.string ⟨#[]⟩, .string ⟨#[]⟩, .int .i64 0, .int .i64 0, .int .i64 0, .int .i64 0] := by rw [hW]; exact Box.new _ _ _
  have bW : Below w.heap.size w W := by rw [hW]; go_grown
  clear hW
  have CC : Calls Tryd.prog 17 #[.string s, .int .u8 32] W (SplitP 32 s.data.toList W) := splitS s 32 W hs
  refine CC.mono ?_
  rintro e w1 ⟨v, xs, rfl, sl, HS, hx, b1⟩
  clear CC
  have B1 := chain bW b1
  replace P := P.keep b1
  clear bW b1
  by_cases h5 : xs.length = 5
  · obtain ⟨a, b, c, f, g, b_, off, cap, rfl, rfl, hcap, hcap2, x0, x1, x2, x3, x4⟩ := five_cells sl h5
    unfold maxLen at hcap2
    have za : a.size ≤ 16777216 := Nat.le_trans (hx a (by simp)) hs'
    have zb : b.size ≤ 16777216 := Nat.le_trans (hx b (by simp)) hs'
    have zc : c.size ≤ 16777216 := Nat.le_trans (hx c (by simp)) hs'
    have zf : f.size ≤ 16777216 := Nat.le_trans (hx f (by simp)) hs'
    have zg : g.size ≤ 16777216 := Nat.le_trans (hx g (by simp)) hs'
    have HS5 : Hid (IsSplit 32 s.data.toList [a.data.toList, b.data.toList, c.data.toList, f.data.toList, g.data.toList]) := HS
    clear HS sl hx h5
    by_cases h77 : a.size = 7 ∧ f.size = 7
    · obtain ⟨h7a, h7⟩ := h77
      have q7a : ((a.size : Int) != 7) = false := by rw [h7a]; rfl
      have q7 : ((f.size : Int) != 7) = false := by rw [h7]; rfl
      have H7 := Lib.hid h7; clear h7
      have g3 : (3 : Int) ≤ (a.size : Int) := by omega
      have g4 : (4 : Int) ≤ (a.size : Int) := by omega
      go_wp2_with fail
      have nb : b_ < w1.heap.size := cell_lt x0
      have sb : w.heap.size ≤ w1.heap.size := B1.size
      go_region_held3 (fun V => V.cell? ⟨b_, off, none⟩ = some (.string a) ∧ V.cell? ⟨b_, off + 1, none⟩ = some (.string b) ∧ Below w.heap.size w V) (((try go_split_ands); refine ⟨?_, ?_, ?_⟩ <;> repeat' (first | with_reducible assumption | with_reducible exact x0 | with_reducible exact x1 | with_reducible exact B1 | with_reducible refine cell_drewG ?_ | with_reducible refine cell_allocG ?_ _ | with_reducible refine Below.drew ?_ | with_reducible refine below_allocG ?_ _ | with_reducible refine cell_setG ?_ ?_ _ | with_reducible refine Below.setCell ?_ ?_ _ | with_reducible refine cell_keep hb ?_ | with_reducible refine chain' hb ?_ | (simp only; omega)))) ((go_at_call 19; (try go_split_ands); refine (minuteS b _ (by unfold maxLen; omega) (Tabs.keep ht (by assumption))).mono ?_; rintro e w' ⟨m, rfl, HM, m0, m1, hb⟩; (first | (have nx := newlegA (w := w1) hb) | (have nx := newlegB (w := w1) hb) | (have nx := newlegC (w := w1) hb) | skip); (first | (have n0 := nx.1; have n1 := nx.2.1; have n2 := nx.2.2.1; have n3 := nx.2.2.2.1; have n4 := nx.2.2.2.2.1; have n5 := nx.2.2.2.2.2.1; have nf := nx.2.2.2.2.2.2; clear nx) | skip)))
      · (try go_split_ands)
        have LB : ∃ (V : World) (q : Nat), V = w'.alloc (.cells #[.string (a.extract 0 3), .string (a.extract 4 7), .int .i64 m, .int .i64 0, .int .i64 0, .int .i64 0] 30) ∧ q = w'.heap.size := ⟨_, _, rfl, rfl⟩
        obtain ⟨V, q, hV, hq⟩ := LB
        rw [← hV, ← hq]
        have L : Box V q 30 #[.string (a.extract 0 3), .string (a.extract 4 7), .int .i64 m, .int .i64 0, .int .i64 0, .int .i64 0] := by rw [hV, hq]; exact Box.new _ _ _
        have bv : Below w1.heap.size w1 V := by rw [hV]; exact below_allocG (chain (Below.refl _ _).drew hb) _
        have nq : w1.heap.size ≤ q := by rw [hq]; exact hb.size
        have bV := chain B1 bv
        have lP := P.lt
        have nw : w.heap.size < q := Nat.lt_of_lt_of_le lP nq
        have nb' : b_ ≠ q := by omega
        replace P := P.keep bv
        replace x2 := cell_keep bv x2
        replace x3 := cell_keep bv x3
        replace x4 := cell_keep bv x4
        have tV := Tabs.keep ht bV
        clear hV hq bv hb B1 x0 x1 nb sb nq lP
        obtain ⟨sa, hsa⟩ : ∃ sa : ByteArray, sa = (a.extract 0 3) := ⟨_, rfl⟩
        obtain ⟨sb, hsb⟩ : ∃ sb : ByteArray, sb = (a.extract 4 7) := ⟨_, rfl⟩
        rw [← hsa, ← hsb]
        rw [← hsa, ← hsb] at L
        have HA : Hid (∀ x y : ByteArray, plc x = true → plc y = true → a.data.toList = x.data.toList ++ 45 :: y.data.toList → sa = x ∧ sb = y) := Lib.hid (by
          intro x y px py e
          rw [hsa, hsb]; exact ext_src px py e)
        have zsa : sa.size ≤ 16777216 := by rw [hsa]; simp only [ByteArray.size_extract]; omega
        have zsb : sb.size ≤ 16777216 := by rw [hsb]; simp only [ByteArray.size_extract]; omega
        clear hsa hsb
        have ne0 : b_ < V.heap.size := cell_lt x2
        go_wp2_with fail
        refine (parseS c _ (by omega)).mono ?_
        rintro e w4 ⟨n, ok4, rfl, HN, n0, n1, b4⟩
        have B4 := chain bV b4
        replace P := P.keep b4
        replace L := L.keep b4
        replace x3 := cell_keep b4 x3
        replace x4 := cell_keep b4 x4
        clear x2 bV b4 ne0 tV
        have l3 : w4.cell? ⟨q, 3, none⟩ = some (.int .i64 0) := L.cell 3
        have lf : ∀ j, w4.frozen? ⟨q, j, none⟩ = false := fun j => L.frozen j
        go_wp2_with fail
        obtain ⟨X, hX⟩ : ∃ X, X = w4.setCell ⟨q, 3, none⟩ (.int .i64 n) := ⟨_, rfl⟩
        rw [← hX]
        have bX : Below w.heap.size w X := by rw [hX]; exact B4.setCell (by simp only; omega) _
        replace L : Box X q 30 #[.string sa, .string sb, .int .i64 m, .int .i64 n, .int .i64 0, .int .i64 0] := by rw [hX]; exact L.set 3 _
        replace P : Box X w.heap.size 30 #[.string ⟨#[]⟩, .string ⟨#[]⟩, .int .i64 0, .int .i64 0, .int .i64 0, .int .i64 0] := by rw [hX]; exact P.far (p := ⟨q, 3, none⟩) (by simp only; omega) _
        replace x3 : X.cell? ⟨b_, off + 3, none⟩ = some (.string f) := by rw [hX]; simp [go_sem, x3]
        replace x4 : X.cell? ⟨b_, off + 4, none⟩ = some (.string g) := by rw [hX]; simp [go_sem, x4]
        clear hX l3 lf B4
        go_loopw [8] (fun iv wr => ∃ k : Nat, k ≤ 7 ∧ iv = .int .i64 k ∧ Box wr w.heap.size 30 #[.string ⟨#[]⟩, .string ⟨#[]⟩, .int .i64 0, .int .i64 0, .int .i64 0, .int .i64 0] ∧ Box wr q 30 #[.string sa, .string sb, .int .i64 m, .int .i64 n, .int .i64 (dayV f.data.toList k), .int .i64 0] ∧ wr.cell? ⟨b_, off + 3, none⟩ = some (.string f) ∧ wr.cell? ⟨b_, off + 4, none⟩ = some (.string g) ∧ Below w.heap.size w wr) (fun iv _ => 7 - (intOf iv).toNat)
        case atStart => exact ⟨0, by omega, rfl, P, L, x3, x4, bX⟩
        case round =>
          clear P L x3 x4 bX
          obtain ⟨k, hk, rfl, P, L, x3, x4, hb⟩ := hrel
          have lf : ∀ j, wr.frozen? ⟨q, j, none⟩ = false := fun j => L.frozen j
          have ne0 : b_ < wr.heap.size := cell_lt x3
          by_cases hlt : k < 7
          · have F7 := H7.out
            have hlt' : (k : Int) < 7 := by omega
            have hks : k < f.size := by omega
            have hks' : (k : Int) < (f.size : Int) := by omega
            have hk0 : (0 : Int) ≤ (k : Int) := by omega
            have hg := get_letter f hks
            obtain ⟨x, hx⟩ : ∃ x : UInt8, x = f[k] := ⟨_, rfl⟩
            have hgetx : ∀ h : k < f.size, f[k]'h = x := fun _ => hx.symm
            rw [← hx] at hg
            have HG := Lib.hid hg; clear hg hx F7
            obtain ⟨l0, l1⟩ := dayV_127 f.data.toList hk
            have l4 : wr.cell? ⟨q, 4, none⟩ = some (.int .i64 (dayV f.data.toList k)) := L.cell 4
            generalize hdv : dayV f.data.toList k = dv at l0 l1 l4 L
            have HV := Lib.hid hdv; clear hdv
            by_cases h1 : x = 49
            · subst h1
              go_wp2_with fail
              go_region
              go_wp2_with fail
              go_roundw
              case rel =>
                have hw := day_wrap hlt l0 l1
                rw [hw]
                refine ⟨k + 1, by omega, by go_num, ?_, ?_, ?_, ?_, ?_⟩
                · exact Box.drew (P.far (p := ⟨q, 4, none⟩) (by simp only; omega) _)
                · rw [dayV_on _ HG.out, HV.out]
                  exact Box.drew (L.set 4 _)
                · have e : (wr.setCell ⟨q, 4, none⟩ (.int .i64 (dv + 2 ^ k))).cell? ⟨b_, off + 3, none⟩ = some (.string f) := by simp [go_sem, x3]
                  exact e
                · have e : (wr.setCell ⟨q, 4, none⟩ (.int .i64 (dv + 2 ^ k))).cell? ⟨b_, off + 4, none⟩ = some (.string g) := by simp [go_sem, x4]
                  exact e
                · exact (hb.setCell (by simp only; omega) _).drew
              case measure => simp [intOf]; omega
            · have h1' : ((x.toNat : Int) == 49) = false := by
                simp only [beq_eq_false_iff_ne]
                intro e
                exact h1 (UInt8.toNat_inj.1 (by have : (49 : UInt8).toNat = 49 := rfl; omega))
              go_wp2_with fail
              go_roundw
              case rel => exact ⟨k + 1, by omega, by go_num, P, by rw [dayV_off _ (by rw [HG.out]; exact h1), HV.out]; exact L, x3, x4, hb⟩
              case measure => simp [intOf]; omega
          · obtain rfl : k = 7 := by omega
            have hlt' : ¬ ((7 : Nat) : Int) < 7 := by omega
            generalize hdv : dayV f.data.toList 7 = dv at L
            have HV := Lib.hid hdv; clear hdv
            go_wp2_with fail
            refine (parseS g _ (by omega)).mono ?_
            rintro e w5 ⟨r, ok5, rfl, HR, r0, r1, b5⟩
            have B5 := chain hb b5
            replace P := P.keep b5
            replace L := L.keep b5
            clear x3 x4 hb b5 lf ne0
            have l0 : w5.cell? ⟨q, 0, none⟩ = some (.string sa) := L.cell 0
            have l1 : w5.cell? ⟨q, 1, none⟩ = some (.string sb) := L.cell 1
            have l2 : w5.cell? ⟨q, 2, none⟩ = some (.int .i64 m) := L.cell 2
            have l3 : w5.cell? ⟨q, 3, none⟩ = some (.int .i64 n) := L.cell 3
            have l4 : w5.cell? ⟨q, 4, none⟩ = some (.int .i64 dv) := L.cell 4
            have l5 : w5.cell? ⟨q, 5, none⟩ = some (.int .i64 0) := L.cell 5
            have lf : ∀ j, w5.frozen? ⟨q, j, none⟩ = false := fun j => L.frozen j
            go_wp2_with fail
            obtain ⟨Y, hY⟩ : ∃ Y, Y = w5.setCell ⟨q, 5, none⟩ (.int .i64 r) := ⟨_, rfl⟩
            rw [← hY]
            have bY : Below w.heap.size w Y := by rw [hY]; exact B5.setCell (by simp only; omega) _
            replace L : Box Y q 30 #[.string sa, .string sb, .int .i64 m, .int .i64 n, .int .i64 dv, .int .i64 r] := by rw [hY]; exact L.set 5 _
            replace P : Box Y w.heap.size 30 #[.string ⟨#[]⟩, .string ⟨#[]⟩, .int .i64 0, .int .i64 0, .int .i64 0, .int .i64 0] := by rw [hY]; exact P.far (p := ⟨q, 5, none⟩) (by simp only; omega) _
            clear hY l0 l1 l2 l3 l4 l5 lf B5
            refine (legS sa sb m n dv r _ (by unfold maxLen; omega) (by unfold maxLen; omega) (Tabs.keep ht bY)).mono ?_
            rintro e w6 ⟨t, rfl, HT, hz, b6⟩
            clear hz
            replace P := P.keep b6
            replace L := L.keep b6
            have B6 := chain bY b6
            have p0 : w6.cell? ⟨w.heap.size, 0, none⟩ = some (.string ⟨#[]⟩) := P.cell 0
            have p1 : w6.cell? ⟨w.heap.size, 1, none⟩ = some (.string ⟨#[]⟩) := P.cell 1
            have p2 : w6.cell? ⟨w.heap.size, 2, none⟩ = some (.int .i64 0) := P.cell 2
            have p3 : w6.cell? ⟨w.heap.size, 3, none⟩ = some (.int .i64 0) := P.cell 3
            have p4 : w6.cell? ⟨w.heap.size, 4, none⟩ = some (.int .i64 0) := P.cell 4
            have p5 : w6.cell? ⟨w.heap.size, 5, none⟩ = some (.int .i64 0) := P.cell 5
            have pf : ∀ j, w6.frozen? ⟨w.heap.size, j, none⟩ = false := fun j => P.frozen j
            have l0 : w6.cell? ⟨q, 0, none⟩ = some (.string sa) := L.cell 0
            have l1 : w6.cell? ⟨q, 1, none⟩ = some (.string sb) := L.cell 1
            have l2 : w6.cell? ⟨q, 2, none⟩ = some (.int .i64 m) := L.cell 2
            have l3 : w6.cell? ⟨q, 3, none⟩ = some (.int .i64 n) := L.cell 3
            have l4 : w6.cell? ⟨q, 4, none⟩ = some (.int .i64 dv) := L.cell 4
            have l5 : w6.cell? ⟨q, 5, none⟩ = some (.int .i64 r) := L.cell 5
            have LR : Hid (LegRead s.data.toList a.data.toList b.data.toList c.data.toList f.data.toList g.data.toList ⟨sa, sb, m, n, dv, r⟩) := Lib.hid ⟨HS5.out, HM.out, ⟨_, HN.out⟩, ⟨_, HR.out⟩, HV.out.symm, HA.out⟩
            clear HS5 HM HN HR HV HA
            cases hq : (t.toList == s.toList)
            · have HF := Lib.hid (leg_no LR.out (diff_list HT.out hq))
              have hq' : (t.toList != s.toList) = true := by simp [bne, hq]
              go_wp2_with fail
              refine bodyPost_ret (v := .tuple #[.agg #[.string ⟨#[]⟩, .string ⟨#[]⟩, .int .i64 0, .int .i64 0, .int .i64 0, .int .i64 0], .bool false]) (by simp [results, Tryd.results15, go_sem, p0, p1, p2, p3, p4, p5]) rfl (LegPost.of HF.out ?_)
              repeat' (first | with_reducible exact B6 | with_reducible refine Below.setCell ?_ ?_ _ | (simp only; omega))
            · have HF := Lib.hid (leg_yes (split_ne LR.out.1) (same_list HT.out hq))
              have hq' : (t.toList != s.toList) = false := by simp [bne, hq]
              go_wp2_with fail
              refine bodyPost_ret (v := .tuple #[.agg #[.string sa, .string sb, .int .i64 m, .int .i64 n, .int .i64 dv, .int .i64 r], .bool true]) (by simp [results, Tryd.results15, go_sem, p0, p1, p2, p3, p4, p5]) rfl (LegPost.of HF.out ?_)
              repeat' (first | with_reducible exact B6 | with_reducible refine Below.setCell ?_ ?_ _ | (simp only; omega))
      · (try go_split_ands)
        have LB : ∃ (V : World) (q : Nat), V = ((((((w'.setCell ⟨w1.heap.size, 0, none⟩ (.string (a.extract 0 3))).setCell ⟨w1.heap.size, 1, none⟩ (.string (a.extract 4 7))).setCell ⟨w1.heap.size, 2, none⟩ (.int .i64 m)).setCell ⟨w1.heap.size, 3, none⟩ (.int .i64 0)).setCell ⟨w1.heap.size, 4, none⟩ (.int .i64 0)).setCell ⟨w1.heap.size, 5, none⟩ (.int .i64 0)) ∧ q = w1.heap.size := ⟨_, _, rfl, rfl⟩
        obtain ⟨V, q, hV, hq⟩ := LB
        rw [← hV, ← hq]
        have L : Box V q 30 #[.string (a.extract 0 3), .string (a.extract 4 7), .int .i64 m, .int .i64 0, .int .i64 0, .int .i64 0] := by rw [hV, hq]; exact ((((((Box.new w1 _ _).drew.keep hb).set 0 _).set 1 _).set 2 _).set 3 _).set 4 _ |>.set 5 _
        have bv : Below w1.heap.size w1 V := by
          rw [hV]
          have g0 : Below w1.heap.size w1 w' := chain (below_allocG (Below.refl _ _) _).drew hb
          repeat' (first | with_reducible exact g0 | with_reducible refine Below.setCell ?_ ?_ _ | exact Nat.le_refl _)
        have nq : w1.heap.size ≤ q := by rw [hq]; exact Nat.le_refl _
        have bV := chain B1 bv
        have lP := P.lt
        have nw : w.heap.size < q := Nat.lt_of_lt_of_le lP nq
        have nb' : b_ ≠ q := by omega
        replace P := P.keep bv
        replace x2 := cell_keep bv x2
        replace x3 := cell_keep bv x3
        replace x4 := cell_keep bv x4
        have tV := Tabs.keep ht bV
        clear hV hq bv hb B1 x0 x1 nb sb nq lP
        obtain ⟨sa, hsa⟩ : ∃ sa : ByteArray, sa = (a.extract 0 3) := ⟨_, rfl⟩
        obtain ⟨sb, hsb⟩ : ∃ sb : ByteArray, sb = (a.extract 4 7) := ⟨_, rfl⟩
        rw [← hsa, ← hsb]
        rw [← hsa, ← hsb] at L
        have HA : Hid (∀ x y : ByteArray, plc x = true → plc y = true → a.data.toList = x.data.toList ++ 45 :: y.data.toList → sa = x ∧ sb = y) := Lib.hid (by
          intro x y px py e
          rw [hsa, hsb]; exact ext_src px py e)
        have zsa : sa.size ≤ 16777216 := by rw [hsa]; simp only [ByteArray.size_extract]; omega
        have zsb : sb.size ≤ 16777216 := by rw [hsb]; simp only [ByteArray.size_extract]; omega
        clear hsa hsb
        have ne0 : b_ < V.heap.size := cell_lt x2
        go_wp2_with fail
        refine (parseS c _ (by omega)).mono ?_
        rintro e w4 ⟨n, ok4, rfl, HN, n0, n1, b4⟩
        have B4 := chain bV b4
        replace P := P.keep b4
        replace L := L.keep b4
        replace x3 := cell_keep b4 x3
        replace x4 := cell_keep b4 x4
        clear x2 bV b4 ne0 tV
        have l3 : w4.cell? ⟨q, 3, none⟩ = some (.int .i64 0) := L.cell 3
        have lf : ∀ j, w4.frozen? ⟨q, j, none⟩ = false := fun j => L.frozen j
        go_wp2_with fail
        obtain ⟨X, hX⟩ : ∃ X, X = w4.setCell ⟨q, 3, none⟩ (.int .i64 n) := ⟨_, rfl⟩
        rw [← hX]
        have bX : Below w.heap.size w X := by rw [hX]; exact B4.setCell (by simp only; omega) _
        replace L : Box X q 30 #[.string sa, .string sb, .int .i64 m, .int .i64 n, .int .i64 0, .int .i64 0] := by rw [hX]; exact L.set 3 _
        replace P : Box X w.heap.size 30 #[.string ⟨#[]⟩, .string ⟨#[]⟩, .int .i64 0, .int .i64 0, .int .i64 0, .int .i64 0] := by rw [hX]; exact P.far (p := ⟨q, 3, none⟩) (by simp only; omega) _
        replace x3 : X.cell? ⟨b_, off + 3, none⟩ = some (.string f) := by rw [hX]; simp [go_sem, x3]
        replace x4 : X.cell? ⟨b_, off + 4, none⟩ = some (.string g) := by rw [hX]; simp [go_sem, x4]
        clear hX l3 lf B4
        go_loopw [8] (fun iv wr => ∃ k : Nat, k ≤ 7 ∧ iv = .int .i64 k ∧ Box wr w.heap.size 30 #[.string ⟨#[]⟩, .string ⟨#[]⟩, .int .i64 0, .int .i64 0, .int .i64 0, .int .i64 0] ∧ Box wr q 30 #[.string sa, .string sb, .int .i64 m, .int .i64 n, .int .i64 (dayV f.data.toList k), .int .i64 0] ∧ wr.cell? ⟨b_, off + 3, none⟩ = some (.string f) ∧ wr.cell? ⟨b_, off + 4, none⟩ = some (.string g) ∧ Below w.heap.size w wr) (fun iv _ => 7 - (intOf iv).toNat)
        case atStart => exact ⟨0, by omega, rfl, P, L, x3, x4, bX⟩
        case round =>
          clear P L x3 x4 bX
          obtain ⟨k, hk, rfl, P, L, x3, x4, hb⟩ := hrel
          have lf : ∀ j, wr.frozen? ⟨q, j, none⟩ = false := fun j => L.frozen j
          have ne0 : b_ < wr.heap.size := cell_lt x3
          by_cases hlt : k < 7
          · have F7 := H7.out
            have hlt' : (k : Int) < 7 := by omega
            have hks : k < f.size := by omega
            have hks' : (k : Int) < (f.size : Int) := by omega
            have hk0 : (0 : Int) ≤ (k : Int) := by omega
            have hg := get_letter f hks
            obtain ⟨x, hx⟩ : ∃ x : UInt8, x = f[k] := ⟨_, rfl⟩
            have hgetx : ∀ h : k < f.size, f[k]'h = x := fun _ => hx.symm
            rw [← hx] at hg
            have HG := Lib.hid hg; clear hg hx F7
            obtain ⟨l0, l1⟩ := dayV_127 f.data.toList hk
            have l4 : wr.cell? ⟨q, 4, none⟩ = some (.int .i64 (dayV f.data.toList k)) := L.cell 4
            generalize hdv : dayV f.data.toList k = dv at l0 l1 l4 L
            have HV := Lib.hid hdv; clear hdv
            by_cases h1 : x = 49
            · subst h1
              go_wp2_with fail
              go_region
              go_wp2_with fail
              go_roundw
              case rel =>
                have hw := day_wrap hlt l0 l1
                rw [hw]
                refine ⟨k + 1, by omega, by go_num, ?_, ?_, ?_, ?_, ?_⟩
                · exact Box.drew (P.far (p := ⟨q, 4, none⟩) (by simp only; omega) _)
                · rw [dayV_on _ HG.out, HV.out]
                  exact Box.drew (L.set 4 _)
                · have e : (wr.setCell ⟨q, 4, none⟩ (.int .i64 (dv + 2 ^ k))).cell? ⟨b_, off + 3, none⟩ = some (.string f) := by simp [go_sem, x3]
                  exact e
                · have e : (wr.setCell ⟨q, 4, none⟩ (.int .i64 (dv + 2 ^ k))).cell? ⟨b_, off + 4, none⟩ = some (.string g) := by simp [go_sem, x4]
                  exact e
                · exact (hb.setCell (by simp only; omega) _).drew
              case measure => simp [intOf]; omega
            · have h1' : ((x.toNat : Int) == 49) = false := by
                simp only [beq_eq_false_iff_ne]
                intro e
                exact h1 (UInt8.toNat_inj.1 (by have : (49 : UInt8).toNat = 49 := rfl; omega))
              go_wp2_with fail
              go_roundw
              case rel => exact ⟨k + 1, by omega, by go_num, P, by rw [dayV_off _ (by rw [HG.out]; exact h1), HV.out]; exact L, x3, x4, hb⟩
              case measure => simp [intOf]; omega
          · obtain rfl : k = 7 := by omega
            have hlt' : ¬ ((7 : Nat) : Int) < 7 := by omega
            generalize hdv : dayV f.data.toList 7 = dv at L
            have HV := Lib.hid hdv; clear hdv
            go_wp2_with fail
            refine (parseS g _ (by omega)).mono ?_
            rintro e w5 ⟨r, ok5, rfl, HR, r0, r1, b5⟩
            have B5 := chain hb b5
            replace P := P.keep b5
            replace L := L.keep b5
            clear x3 x4 hb b5 lf ne0
            have l0 : w5.cell? ⟨q, 0, none⟩ = some (.string sa) := L.cell 0
            have l1 : w5.cell? ⟨q, 1, none⟩ = some (.string sb) := L.cell 1
            have l2 : w5.cell? ⟨q, 2, none⟩ = some (.int .i64 m) := L.cell 2
            have l3 : w5.cell? ⟨q, 3, none⟩ = some (.int .i64 n) := L.cell 3
            have l4 : w5.cell? ⟨q, 4, none⟩ = some (.int .i64 dv) := L.cell 4
            have l5 : w5.cell? ⟨q, 5, none⟩ = some (.int .i64 0) := L.cell 5
            have lf : ∀ j, w5.frozen? ⟨q, j, none⟩ = false := fun j => L.frozen j
            go_wp2_with fail
            obtain ⟨Y, hY⟩ : ∃ Y, Y = w5.setCell ⟨q, 5, none⟩ (.int .i64 r) := ⟨_, rfl⟩
            rw [← hY]
            have bY : Below w.heap.size w Y := by rw [hY]; exact B5.setCell (by simp only; omega) _
            replace L : Box Y q 30 #[.string sa, .string sb, .int .i64 m, .int .i64 n, .int .i64 dv, .int .i64 r] := by rw [hY]; exact L.set 5 _
            replace P : Box Y w.heap.size 30 #[.string ⟨#[]⟩, .string ⟨#[]⟩, .int .i64 0, .int .i64 0, .int .i64 0, .int .i64 0] := by rw [hY]; exact P.far (p := ⟨q, 5, none⟩) (by simp only; omega) _
            clear hY l0 l1 l2 l3 l4 l5 lf B5
            refine (legS sa sb m n dv r _ (by unfold maxLen; omega) (by unfold maxLen; omega) (Tabs.keep ht bY)).mono ?_
            rintro e w6 ⟨t, rfl, HT, hz, b6⟩
            clear hz
            replace P := P.keep b6
            replace L := L.keep b6
            have B6 := chain bY b6
            have p0 : w6.cell? ⟨w.heap.size, 0, none⟩ = some (.string ⟨#[]⟩) := P.cell 0
            have p1 : w6.cell? ⟨w.heap.size, 1, none⟩ = some (.string ⟨#[]⟩) := P.cell 1
            have p2 : w6.cell? ⟨w.heap.size, 2, none⟩ = some (.int .i64 0) := P.cell 2
            have p3 : w6.cell? ⟨w.heap.size, 3, none⟩ = some (.int .i64 0) := P.cell 3
            have p4 : w6.cell? ⟨w.heap.size, 4, none⟩ = some (.int .i64 0) := P.cell 4
            have p5 : w6.cell? ⟨w.heap.size, 5, none⟩ = some (.int .i64 0) := P.cell 5
            have pf : ∀ j, w6.frozen? ⟨w.heap.size, j, none⟩ = false := fun j => P.frozen j
            have l0 : w6.cell? ⟨q, 0, none⟩ = some (.string sa) := L.cell 0
            have l1 : w6.cell? ⟨q, 1, none⟩ = some (.string sb) := L.cell 1
            have l2 : w6.cell? ⟨q, 2, none⟩ = some (.int .i64 m) := L.cell 2
            have l3 : w6.cell? ⟨q, 3, none⟩ = some (.int .i64 n) := L.cell 3
            have l4 : w6.cell? ⟨q, 4, none⟩ = some (.int .i64 dv) := L.cell 4
            have l5 : w6.cell? ⟨q, 5, none⟩ = some (.int .i64 r) := L.cell 5
            have LR : Hid (LegRead s.data.toList a.data.toList b.data.toList c.data.toList f.data.toList g.data.toList ⟨sa, sb, m, n, dv, r⟩) := Lib.hid ⟨HS5.out, HM.out, ⟨_, HN.out⟩, ⟨_, HR.out⟩, HV.out.symm, HA.out⟩
            clear HS5 HM HN HR HV HA
            cases hq : (t.toList == s.toList)
            · have HF := Lib.hid (leg_no LR.out (diff_list HT.out hq))
              have hq' : (t.toList != s.toList) = true := by simp [bne, hq]
              go_wp2_with fail
              refine bodyPost_ret (v := .tuple #[.agg #[.string ⟨#[]⟩, .string ⟨#[]⟩, .int .i64 0, .int .i64 0, .int .i64 0, .int .i64 0], .bool false]) (by simp [results, Tryd.results15, go_sem, p0, p1, p2, p3, p4, p5]) rfl (LegPost.of HF.out ?_)
              repeat' (first | with_reducible exact B6 | with_reducible refine Below.setCell ?_ ?_ _ | (simp only; omega))
            · have HF := Lib.hid (leg_yes (split_ne LR.out.1) (same_list HT.out hq))
              have hq' : (t.toList != s.toList) = false := by simp [bne, hq]
              go_wp2_with fail
              refine bodyPost_ret (v := .tuple #[.agg #[.string sa, .string sb, .int .i64 m, .int .i64 n, .int .i64 dv, .int .i64 r], .bool true]) (by simp [results, Tryd.results15, go_sem, p0, p1, p2, p3, p4, p5]) rfl (LegPost.of HF.out ?_)
              repeat' (first | with_reducible exact B6 | with_reducible refine Below.setCell ?_ ?_ _ | (simp only; omega))
    · have HL := Lib.hid (leg_seven HS5.out (by rw [data_len, data_len]; omega))
      have hor : (((a.size : Int) != 7) = true) ∨ (((a.size : Int) != 7) = false ∧ ((f.size : Int) != 7) = true) := by
        by_cases h : a.size = 7
        · exact .inr ⟨by rw [h]; rfl, by simp; omega⟩
        · exact .inl (by simp; omega)
      have p0 : w1.cell? ⟨w.heap.size, 0, none⟩ = some (.string ⟨#[]⟩) := P.cell 0
      have p1 : w1.cell? ⟨w.heap.size, 1, none⟩ = some (.string ⟨#[]⟩) := P.cell 1
      have p2 : w1.cell? ⟨w.heap.size, 2, none⟩ = some (.int .i64 0) := P.cell 2
      have p3 : w1.cell? ⟨w.heap.size, 3, none⟩ = some (.int .i64 0) := P.cell 3
      have p4 : w1.cell? ⟨w.heap.size, 4, none⟩ = some (.int .i64 0) := P.cell 4
      have p5 : w1.cell? ⟨w.heap.size, 5, none⟩ = some (.int .i64 0) := P.cell 5
      have pf : ∀ j, w1.frozen? ⟨w.heap.size, j, none⟩ = false := fun j => P.frozen j
      rcases hor with q7 | ⟨q7, q8⟩
      all_goals
        go_wp2_with fail
        refine bodyPost_ret (v := .tuple #[.agg #[.string ⟨#[]⟩, .string ⟨#[]⟩, .int .i64 0, .int .i64 0, .int .i64 0, .int .i64 0], .bool false]) (by simp [results, Tryd.results15, go_sem, p0, p1, p2, p3, p4, p5]) rfl (LegPost.of HL.out ?_)
        repeat' (first | with_reducible exact B1 | with_reducible refine Below.setCell ?_ ?_ _ | (simp only; omega))
  · have HL := Lib.hid (leg_len HS.out (by simpa using h5))
    have h5' : ((xs.length : Int) != 5) = true := by simp; omega
    obtain ⟨A, cap, rfl, hcap, hcap2⟩ := sl.form
    unfold maxLen at hcap2
    have p0 : w1.cell? ⟨w.heap.size, 0, none⟩ = some (.string ⟨#[]⟩) := P.cell 0
    have p1 : w1.cell? ⟨w.heap.size, 1, none⟩ = some (.string ⟨#[]⟩) := P.cell 1
    have p2 : w1.cell? ⟨w.heap.size, 2, none⟩ = some (.int .i64 0) := P.cell 2
    have p3 : w1.cell? ⟨w.heap.size, 3, none⟩ = some (.int .i64 0) := P.cell 3
    have p4 : w1.cell? ⟨w.heap.size, 4, none⟩ = some (.int .i64 0) := P.cell 4
    have p5 : w1.cell? ⟨w.heap.size, 5, none⟩ = some (.int .i64 0) := P.cell 5
    have pf : ∀ j, w1.frozen? ⟨w.heap.size, j, none⟩ = false := fun j => P.frozen j
    go_wp2_with fail
    refine bodyPost_ret (v := .tuple #[.agg #[.string ⟨#[]⟩, .string ⟨#[]⟩, .int .i64 0, .int .i64 0, .int .i64 0, .int .i64 0], .bool false]) (by simp [results, Tryd.results15, go_sem, p0, p1, p2, p3, p4, p5]) rfl (LegPost.of HL.out ?_)
    repeat' (first | with_reducible exact B1 | with_reducible refine Below.setCell ?_ ?_ _ | (simp only; omega))
end Go.Proofs.YtemlgfbfomkdaaaDoor
