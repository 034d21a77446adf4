/- What the program's PlacesOf answers: the places of a network, each once, in order. No condition. -/
import Derived.Test.YtaiemdamhppdmaaPlacesLaw
import Derived.Test.YtaiemdamhppdmaaSplit
import Derived.Test.YtaiemdamhppdmaaRecs
import Derived.Test.YtaiemdamhppdmaaShelf
import Derived.Maps.OwnSet
import Derived.Sort.OwnSorted
namespace Go.Proofs.Ytaiemdamhppdmaa
open Go.RowKit Go.PlainAid Go.Maps Go.WideMaps
set_option maxRecDepth 100000
set_option linter.unusedVariables false
def PlP (P : List ByteArray) (w : World) (e : Ending) (w' : World) : Prop := ∃ (v : Value) (L : List ByteArray), e = .returned v ∧ Own w' w.heap.size 9 1 vS v L ∧ Hid (IsPlaces P L) ∧ L.length ≤ P.length ∧ Below w.heap.size w w'
/-- Is it on the list? -/
noncomputable def inB (S : List ByteArray) (p : ByteArray) : Bool := @decide (p ∈ S) (Classical.propDecidable _)
theorem inB_yes {S : List ByteArray} {p : ByteArray} (h : inB S p = true) : p ∈ S := @of_decide_eq_true _ (Classical.propDecidable _) h
theorem inB_no {S : List ByteArray} {p : ByteArray} (h : inB S p = false) : p ∉ S := @of_decide_eq_false _ (Classical.propDecidable _) h
theorem inB_of {S : List ByteArray} {p : ByteArray} (h : p ∈ S) : inB S p = true := @decide_eq_true _ (Classical.propDecidable _) h
theorem inB_not {S : List ByteArray} {p : ByteArray} (h : p ∉ S) : inB S p = false := @decide_eq_false _ (Classical.propDecidable _) h
/-- A map of bools that says true at the texts of a list. -/
def SetD (D : DataW Unit) (S : List ByteArray) : Prop := IsMap D ∧ ∀ s : ByteArray, D.atKey (.string s.data.toList) (.lit (.bool false)) = .lit (.bool (inB S s))
theorem SetD.zero : SetD (.map []) [] := ⟨isMap_empty, fun s => by rw [inB_not (by simp)]; rfl⟩
theorem SetD.put {D : DataW Unit} {S : List ByteArray} (h : SetD D S) (p : ByteArray) : SetD (D.put (.string p.data.toList) (.lit (.bool true))) (S ++ [p]) := by
  refine ⟨h.1.put _ _, fun s => ?_⟩
  by_cases e : s = p
  · subst e
    rw [atKey_put_same h.1 (show WideAt.IsKeyLit (.string s.data.toList) from by unfold WideAt.IsKeyLit; trivial), inB_of (by simp)]
  · rw [atKey_put_other (by intro k; injection k with k; exact e (byte_inj k)), h.2 s]
    cases q : inB S s
    · rw [inB_not (by have := inB_no q; simp [this, e])]
    · rw [inB_of (by have := inB_yes q; simp [this])]
theorem setD_look {w : World} {M n : Nat} {D : DataW Unit} {S : List ByteArray} {p : ByteArray} (K : Keyed Try.prog 9) (hown : w.ownsMap Try.prog 9 (plainElem Try.prog 4) M n D) (hs : SetD D S) (hp : p.size ≤ maxLen) :
    (Instr.lookup 58 (.map (some M)) (.string p) false).run Try.prog w = .ok (.bool (inB S p)) w := by
  obtain ⟨v, ps, hrun, hv⟩ := hown.lookup K Try.underlying58 (show (zeroValue 4).run Try.prog w = .ok (.bool false) w by kernel_rfl) (plainElem_bool Try.underlying4 false) (keyOf_string_mk Try.underlying9 hp)
  rw [hs.2 p] at hv
  unfold plainElem at hv
  rw [Try.underlying4] at hv
  cases v <;> simp at hv
  rw [hrun, hv.1]
/-- The row that a call owns is no block below its base. -/
theorem own_ne {α : Type} {w : World} {base size : Nat} {e : TypeId} {vals : α → List Value} {v : Value} {xs : List α} (h : Own w base e size vals v xs) {b : Nat} (hb : b < base) : some b ≠ v.ownBlock := fun e1 => by
  have := (World.ownsRow.lt h b e1.symm).1
  omega
theorem own_new {α : Type} {w : World} {base size : Nat} {e : TypeId} {vals : α → List Value} {v : Value} {xs : List α} (h : Own w base e size vals v xs) : some w.heap.size ≠ v.ownBlock := fun e1 => by
  have := (World.ownsRow.lt h w.heap.size e1.symm).2
  omega
theorem flatMap_vS (xs : List ByteArray) : xs.flatMap vS = (xs.map ky).map encStr := by
  induction xs with
  | nil => rfl
  | cons x xs ih => rw [List.flatMap_cons, ih]; rfl
theorem map_str (l : List (List UInt8)) : (l.map fun x => (⟨x.toArray⟩ : ByteArray)).map ky = l := by
  induction l with
  | nil => rfl
  | cons x l ih => rw [List.map_cons, List.map_cons, ih]; rfl
theorem grown_cell {w w' : World} {row : Option Nat} (h : w.grownBy w' row) {p : Addr} (hl : p.block < w.heap.size) (hr : some p.block ≠ row) : w'.cell? p = w.cell? p := World.cell?_of_block (w := w) (h.block p.block hl hr)
/-- The library's sort of a row of the call's own. -/
theorem sort_own {w : World} {base : Nat} {v : Value} {A : List ByteArray} (h : Own w base 9 1 vS v A) (hv : v ≠ .slice none 0 0) (hb : base ≤ w.heap.size) (hA : A.length < 4611686018427387904) :
    Calls Try.prog 30 #[v] w fun e w' => ∃ L : List ByteArray, e = .returned (.tuple #[]) ∧ Hid (L.map ky = (A.map ky).mergeSort fun x y => decide (x ≤ y)) ∧ L.length = A.length ∧ Own w' base 9 1 vS v L ∧ Below base w w' := by
  rcases h.2 with ⟨h0, -⟩ | ⟨g, cap, cur, rfl, hbg, hg, h1, h2, h3, h4⟩
  · exact absurd h0 hv
  have hl : (A.map ky).length = A.length := by simp
  rw [flatMap_vS, Nat.mul_one] at h4
  have hH : Sort.Holds encStr w g 0 (A.map ky).toArray := holds_of_block hg (by rw [hl]; exact h4)
  have hgl : g < w.heap.size := (Array.getElem?_eq_some_iff.1 hg).1
  have HC := Try.sort_Strings g 0 cap (A.map ky) w hH hgl (by omega)
  rw [hl] at HC
  refine HC.mono ?_
  rintro e w' ⟨rfl, n, os, rfl⟩
  have hml : ((A.map ky).mergeSort fun x y => decide (x ≤ y)).length = (A.map ky).length := by simp
  have hO := ownsRow_sorted (n := n) (os := os) (base := base) hml hbg hg (by omega) h2 h3
  rw [hl] at hO
  refine ⟨((A.map ky).mergeSort fun x y => decide (x ≤ y)).map fun x => ⟨x.toArray⟩, rfl, Lib.hid (map_str _), by simp, ?_, (Below.refl _ _).grown (grownBy_sorted _) hb (fun k hk => by injection hk with hk; omega)⟩
  unfold Own
  rw [flatMap_vS, map_str, List.length_map, hml, hl]
  exact hO
set_option maxHeartbeats 3200000 in
theorem placesI (legs : List LegD) (off : List Int) (ch : Int) (l o : Value) (w : World) (hok : ∀ x ∈ legs, x.ok) (sl : SliceOf w 6 LegD.vals l legs) (so : SliceOf w 1 vI o off) (hn : legs.length ≤ 1048576) : Calls Try.prog 9 #[.agg #[l, o, .int .i64 ch]] w (PlP (legPl legs) w) := by
  obtain ⟨A0, c, rfl, hl, hm⟩ := sl.form
  obtain ⟨A', c', rfl, hl', hm'⟩ := so.form
  unfold maxLen at hm hm'
  have hmm := @run_makeMap Try.prog
  have law := string_keyed Try.underlying9
  obtain ⟨i0, hi, hq0, hq1, hq2⟩ := info_parts info_strT
  have HP := Lib.hid (legPl_at legs)
  have HPL := Lib.hid (legPl_len legs)
  go_enter Try.func9, Try.ntmps9
  go_wp2_with fail
  obtain ⟨W, hW⟩ : ∃ W, W = ((w.alloc (.cells #[.slice A0 legs.length c, .slice A' off.length c', .int .i64 ch] 31)).alloc (.map #[] 0)).alloc (.cells #[] 9) := ⟨_, rfl⟩
  rw [← hW]
  have bW : Below w.heap.size w W := by rw [hW]; go_grown
  have zW : W.heap.size = w.heap.size + 3 := by rw [hW]; simp
  have mW : W.ownsMap Try.prog 9 (plainElem (H := Unit) Try.prog 4) (w.heap.size + 1) 0 (.map []) := by
    rw [hW]
    have := World.ownsMap_made (H := Unit) (w.alloc (.cells #[.slice A0 legs.length c, .slice A' off.length c', .int .i64 ch] 31)) Try.prog 9 (plainElem (H := Unit) Try.prog 4)
    rw [show (w.alloc (.cells #[.slice A0 legs.length c, .slice A' off.length c', .int .i64 ch] 31)).heap.size = w.heap.size + 1 by simp] at this
    exact this.alloc _
  have oW : Own W (w.heap.size + 2) 9 1 vS (.slice (some ⟨w.heap.size + 2, 0, none⟩) 0 0) [] := by
    rw [hW]
    have := own_emptyT ((w.alloc (.cells #[.slice A0 legs.length c, .slice A' off.length c', .int .i64 ch] 31)).alloc (.map #[] 0))
    rw [show ((w.alloc (.cells #[.slice A0 legs.length c, .slice A' off.length c', .int .i64 ch] 31)).alloc (.map #[] 0)).heap.size = w.heap.size + 2 by simp] at this
    exact this
  clear hW
  go_loopw [4, 6, 8, 14] (fun ov _ _ kv wr => ∃ (k : Nat) (A : List ByteArray) (D : DataW Unit), k ≤ legs.length ∧ kv = .int .i64 k ∧ wr.ownsMap Try.prog 9 (plainElem Try.prog 4) (w.heap.size + 1) A.length D ∧ Own wr (w.heap.size + 2) 9 1 vS ov A ∧ ov ≠ .slice none 0 0 ∧ Hid (SetD D A) ∧ Hid (Gath (legPl legs) (2 * k) A) ∧ A.length ≤ 2 * k ∧ Below w.heap.size w wr ∧ w.heap.size + 3 ≤ wr.heap.size) (fun _ _ _ kv _ => legs.length - (intOf kv).toNat)
  case atStart => exact ⟨0, [], _, Nat.zero_le _, rfl, mW, oW, (by intro e; cases e), Lib.hid SetD.zero, Lib.hid (Gath.zero _), Nat.le_refl _, bW, by omega⟩
  case round =>
    clear mW oW bW zW
    obtain ⟨k, A, D, hk, rfl, hM, hO, hne, HS, HG, hA, hB, hz⟩ := hrel
    by_cases hlt : k < legs.length
    · obtain ⟨b_, off_, x, rfl, hb_, hx, hcell⟩ := sl.cells hlt
      have hxo := hok x (mem_of hx.out)
      have hp := HP.out k x hx.out
      obtain ⟨f, t, p1, p2, p3, p4⟩ := x
      have zf := hxo.1
      have zt := hxo.2.1
      simp only at zf zt hp
      have HPP := Lib.hid hp
      clear hxo hp
      have c0 : wr.cell? ⟨b_, off_ + k * 6, none⟩ = some (.string f) := (hB.cell (p := ⟨b_, off_ + k * 6, none⟩) hb_).trans (hcell 0 _ rfl)
      have c1 : wr.cell? ⟨b_, off_ + k * 6 + 1, none⟩ = some (.string t) := (hB.cell (p := ⟨b_, off_ + k * 6 + 1, none⟩) hb_).trans (hcell 1 _ rfl)
      have c2 : wr.cell? ⟨b_, off_ + k * 6 + 2, none⟩ = some (.int .i64 p1) := (hB.cell (p := ⟨b_, off_ + k * 6 + 2, none⟩) hb_).trans (hcell 2 _ rfl)
      have c3 : wr.cell? ⟨b_, off_ + k * 6 + 3, none⟩ = some (.int .i64 p2) := (hB.cell (p := ⟨b_, off_ + k * 6 + 3, none⟩) hb_).trans (hcell 3 _ rfl)
      have c4 : wr.cell? ⟨b_, off_ + k * 6 + 4, none⟩ = some (.int .i64 p3) := (hB.cell (p := ⟨b_, off_ + k * 6 + 4, none⟩) hb_).trans (hcell 4 _ rfl)
      have c5 : wr.cell? ⟨b_, off_ + k * 6 + 5, none⟩ = some (.int .i64 p4) := (hB.cell (p := ⟨b_, off_ + k * 6 + 5, none⟩) hb_).trans (hcell 5 _ rfl)
      clear hcell
      go_wp2_with fail
      obtain ⟨V, hV⟩ : ∃ V, V = (wr.alloc (.cells #[.string f, .string t, .int .i64 p1, .int .i64 p2, .int .i64 p3, .int .i64 p4] 52)).alloc (.cells #[.string f, .string t] 9) := ⟨_, rfl⟩
      rw [← hV]
      obtain ⟨g, hg⟩ : ∃ g, g = wr.heap.size + 1 := ⟨_, rfl⟩
      rw [← hg]
      have d0 : V.cell? ⟨g, 0, none⟩ = some (.string f) := by rw [hV, hg]; simp [go_sem]
      have d1 : V.cell? ⟨g, 1, none⟩ = some (.string t) := by rw [hV, hg]; simp [go_sem]
      have bV : Below w.heap.size w V := by rw [hV]; exact (hB.alloc hB.size _).alloc (by simp; omega) _
      have zV : V.heap.size = wr.heap.size + 2 := by rw [hV]; simp
      have mV := (show V.ownsMap Try.prog 9 (plainElem Try.prog 4) (w.heap.size + 1) A.length D from by rw [hV]; exact (hM.alloc _).alloc _)
      have oV : Own V (w.heap.size + 2) 9 1 vS u4 A := by rw [hV]; exact (hO.alloc _).alloc _
      have gN : u4.ownBlock ≠ some g := fun e => by have := (World.ownsRow.lt hO g e).2; omega
      have hgw : w.heap.size + 3 ≤ g := by omega
      have gV : g + 1 ≤ V.heap.size := by omega
      clear hV hg zV hz c0 c1 c2 c3 c4 c5 hM hO hB
      go_loopw [4, 8, 24] (fun ov _ jv Wr => ∃ (j : Nat) (A : List ByteArray) (D : DataW Unit), j ≤ 2 ∧ jv = .int .i64 j ∧ Wr.ownsMap Try.prog 9 (plainElem Try.prog 4) (w.heap.size + 1) A.length D ∧ Own Wr (w.heap.size + 2) 9 1 vS ov A ∧ ov ≠ .slice none 0 0 ∧ Hid (SetD D A) ∧ Hid (Gath (legPl legs) (2 * k + j) A) ∧ A.length ≤ 2 * k + j ∧ Below w.heap.size w Wr ∧ g + 1 ≤ Wr.heap.size ∧ Hid (j = 0 → Wr.cell? ⟨g, 0, none⟩ = some (.string f) ∧ ov.ownBlock ≠ some g) ∧ Hid (j ≤ 1 → Wr.cell? ⟨g, 1, none⟩ = some (.string t))) (fun _ _ jv _ => 2 - (intOf jv).toNat)
      case atStart => exact ⟨0, A, D, by omega, rfl, mV, oV, hne, HS, HG, hA, bV, by omega, Lib.hid (fun _ => ⟨d0, gN⟩), Lib.hid (fun _ => d1)⟩
      case round =>
        clear d0 d1 bV mV oV gN HS HG hA hne gV
        obtain ⟨j, A, D, hj, rfl, hM, hO, hne, HS, HG, hA, hB, hz2, HC0, HC1⟩ := hrel
        by_cases h2 : j < 2
        · obtain ⟨p, hcp, HPj, zp, HN⟩ : ∃ p : ByteArray, wr.cell? ⟨g, j, none⟩ = some (.string p) ∧ Hid ((legPl legs)[2 * k + j]? = some p) ∧ p.size ≤ maxLen ∧ Hid (j = 0 → u4.ownBlock ≠ some g) := by
            rcases (show j = 0 ∨ j = 1 by omega) with rfl | rfl
            · exact ⟨f, (HC0.out rfl).1, Lib.hid HPP.out.1, zf, Lib.hid fun _ => (HC0.out rfl).2⟩
            · exact ⟨t, HC1.out (by omega), Lib.hid HPP.out.2, zt, Lib.hid fun h => by omega⟩
          have hrun := setD_look law hM HS.out zp
          have hkey := keyOf_string_mk Try.underlying9 zp
          have j0 : (0 : Int) ≤ (j : Int) := by omega
          have j1 : (j : Int) < 2 := by omega
          have HC1' := HC1
          clear HC0 HC1
          cases hin : inB A p
          · rw [hin] at hrun
            have hnew := HG.out.new HPj.out (inB_no hin)
            have HGN := Lib.hid hnew; clear hnew hin
            go_wp2_with (first
              | (at_mapUpdate; refine wpList_mapUpdate_own _ rfl _ _ _ 58 rfl 9 4 law Try.underlying58 (plainElem (H := Unit) Try.prog 4) (w.heap.size + 1) _ _ rfl hM (by unfold maxLen; omega) _ _ _ rfl rfl hkey _ [] (plainElem_bool Try.underlying4 true) ?_; intro w1 hown1 hgrow1)
              | (at_builtin; refine wpList_append_own _ rfl (.tmp 34) (.tmp 36) 27 rfl (w.heap.size + 2) 9 i0 (.string ⟨#[]⟩) 1 16 Try.underlying27 hi hq0 hq1 hq2 rfl (by decide) _ _ _ rfl (World.ownsRow.alloc (World.ownsRow.kept hO hgrow1 (Or.inr (own_ne hO (Nat.lt_succ_self _)).symm)) _) _ 1 1 [.string p] rfl rfl ?c1 ?c2 ?c3 ?c4 ?c5 ?_))
            try (case c1 =>
              intro jj u hj
              match jj, hj with
              | 0, hj => simp at hj; subst hj; simp [go_sem, Addr.add])
            case c2 => first | (intro u hu; simp at hu; subst hu; rfl) | rfl
            case c3 => unfold maxLen; omega
            case c4 => omega
            case c5 => have := hgrow1.size; have := hB.size; simp; omega
            intro v' w7 hown' hgrow hnil
            have hO7 : Own w7 (w.heap.size + 2) 9 1 vS v' (A ++ [p]) := own_text hown'
            have hM7 := (hown1.alloc (.cells #[.string p] 9)).kept hgrow (own_ne hO (Nat.lt_succ_self _))
            have s0 := hB.size
            have s1 := hgrow1.size
            have s2 := hgrow.size
            have s3 : w1.heap.size ≤ w7.heap.size := by simp at s2; omega
            have hB7 : Below w.heap.size w w7 := ((hB.grown hgrow1 hB.size (fun q hq => by cases hq; omega)).alloc (by omega) _).grown hgrow (by simp; omega) (fun q hq => by have := (World.ownsRow.lt hO q hq).1; omega)
            have hS7 := Lib.hid (HS.out.put p)
            have hC7 : Hid (j + 1 ≤ 1 → w7.cell? ⟨g, 1, none⟩ = some (.string t)) := Lib.hid (fun h => by
              obtain rfl : j = 0 := by omega
              have e1 := HC1'.out (by omega)
              have e2 : w1.cell? ⟨g, 1, none⟩ = some (.string t) := (grown_cell hgrow1 (p := ⟨g, 1, none⟩) (by simp only; omega) (by simp only; intro e; injection e with e; omega)).trans e1
              have e3 : (w1.alloc (.cells #[.string p] 9)).cell? ⟨g, 1, none⟩ = some (.string t) := cell_keep ((Below.refl _ _).alloc (Nat.le_refl _) _) e2
              exact (grown_cell hgrow (p := ⟨g, 1, none⟩) (cell_lt e3) (by simp only; intro e; exact HN.out rfl e.symm)).trans e3)
            have hne7 : v' ≠ .slice none 0 0 := hnil
            clear hM hO hB HS HG hown1 hgrow1 hgrow hown' hrun HC1' hcp hnil hne
            go_wp2_with fail
            go_roundw
            case rel => exact ⟨j + 1, A ++ [p], _, by omega, by go_num, by rw [List.length_append]; exact hM7, hO7, hne7, hS7, HGN, by rw [List.length_append]; simp; omega, hB7, by omega, Lib.hid (fun h => by omega), hC7⟩
            case measure => simp [intOf]; omega
          · rw [hin] at hrun
            have hold := HG.out.old HPj.out (inB_yes hin)
            have HGN := Lib.hid hold; clear hold hin
            go_wp2_with fail
            go_roundw
            case rel => exact ⟨j + 1, A, D, by omega, by go_num, hM, hO, hne, HS, HGN, by omega, hB, hz2, Lib.hid (fun h => by omega), Lib.hid (fun h => HC1'.out (by omega))⟩
            case measure => simp [intOf]; omega
        · obtain rfl : j = 2 := by omega
          go_wp2_with fail
          go_roundw
          case rel => exact ⟨k + 1, A, D, by omega, by go_num, hM, hO, hne, HS, Lib.hid HG.out, by omega, hB, by omega⟩
          case measure => simp [intOf]; omega
    · obtain rfl : k = legs.length := by omega
      have hGa : Gath (legPl legs) (legPl legs).length A := by rw [HPL.out]; exact HG.out
      have HGA := Lib.hid hGa; clear hGa
      have hlp := HPL.out
      go_wp2_with fail
      refine (sort_own hO hne (by omega) (by omega)).mono ?_
      rintro e w2 ⟨L, rfl, HL, hLl, hO2, b2⟩
      have HI := Lib.hid (HGA.out.sorted HL.out)
      go_wp2_with fail
      go_ret
      exact ⟨_, L, rfl, hO2.mono (by omega), HI, by omega, hB.trans (b2.mono (by omega))⟩
end Go.Proofs.Ytaiemdamhppdmaa
