/- What ParseParcel answers: the program's and the reference's alike. No condition. -/
import Derived.Test.YteicnjemaemijaaGreatDoorParcelLaw
import Derived.Test.YteicnjemaemijaaGreatDoorParFmt
import Derived.Test.YteicnjemaemijaaGreatDoorSplit
import Derived.Test.YteicnjemaemijaaGreatDoorCutKit
import Derived.Test.YteicnjemaemijaaGreatDoorBoxes
import Derived.RegionTactic
import Derived.Lib.Hide
namespace Go.Proofs.YteicnjemaemijaaGreatDoor
open Go.RowKit Go.PlainAid
open Go.Lib (itoa decDigits decDigits_two)
set_option maxRecDepth 100000
set_option linter.unusedVariables false
/-- A parcel read, or none. -/
def ParPost (l : List UInt8) (w : World) (e : Ending) (w' : World) : Prop :=
  ∃ (d : ParcelD) (V : Value) (ok : Bool), e = .returned (.tuple #[.agg #[.int .i64 d.label.service, .int .i64 d.label.serial, .string d.label.dest, .string d.src, .int .i64 d.weight, V, .int .i64 d.value], .bool ok]) ∧ Hid (IsPar l d ok) ∧ Own w' w.heap.size 3 1 vI V d.sides ∧ d.label.dest.size ≤ 16777216 ∧ d.src.size ≤ 16777216 ∧ d.sides.length ≤ l.length + 1 ∧ Below w.heap.size w w'
/-- A slice of five texts. -/
theorem five_cellsP {w : World} {v : Value} {xs : List ByteArray} (sl : SliceOf w 1 vS v xs) (h : xs.length = 5) : ∃ (a b c f g : ByteArray) (b_ off cap : Nat), xs = [a, b, c, f, g] ∧ v = .slice (some ⟨b_, off, none⟩) 5 cap ∧ 5 ≤ cap ∧ cap ≤ maxLen ∧
    w.cell? ⟨b_, off, none⟩ = some (.string a) ∧ w.cell? ⟨b_, off + 1, none⟩ = some (.string b) ∧ w.cell? ⟨b_, off + 2, none⟩ = some (.string c) ∧ w.cell? ⟨b_, off + 3, none⟩ = some (.string f) ∧ w.cell? ⟨b_, off + 4, none⟩ = some (.string g) := by
  match xs, h with
  | [a, b, c, f, g], _ =>
    obtain ⟨A, cap, rfl, h1, h2, hh⟩ := sl
    obtain ⟨b_, off, rfl, hb_, hc⟩ := hh (by simp)
    refine ⟨a, b, c, f, g, b_, off, cap, rfl, rfl, h1, h2, ?_, ?_, ?_, ?_, ?_⟩
    · simpa using hc 0 a 0 _ rfl rfl
    · simpa using hc 1 b 0 _ rfl rfl
    · simpa using hc 2 c 0 _ rfl rfl
    · simpa using hc 3 f 0 _ rfl rfl
    · simpa using hc 4 g 0 _ rfl rfl
theorem slice_savesP {α : Type} {C : Nat} {w w' : World} {size : Nat} {vals : α → List Value} {v : Value} {xs : List α} (h : SliceOf w size vals v xs) (s : Saves C w w') (hb : ∀ b off n c, v = .slice (some ⟨b, off, none⟩) n c → b ≠ C) : SliceOf w' size vals v xs := by
  obtain ⟨A', c', rfl, h1, h2, h3⟩ := h
  refine ⟨A', c', rfl, h1, h2, fun hn => ?_⟩
  obtain ⟨b', off', rfl, hlt, hc⟩ := h3 hn
  exact ⟨b', off', rfl, Nat.lt_of_lt_of_le hlt s.size, fun k x j u hx hu => (s.cell (p := ⟨b', _, none⟩) hlt (hb _ _ _ _ rfl)).trans (hc k x j u hx hu)⟩
theorem saves_grownP {C : Nat} {a w w' : World} {row : Option Nat} (h : Saves C a w) (g : w.grownBy w' row) (hr : ∀ k, row = some k → a.heap.size ≤ k) : Saves C a w' :=
  ⟨g.os.trans h.os, g.tape.trans h.tape, g.output.trans h.output, Nat.le_trans h.size g.size, fun k hk hc => (g.block k (Nat.lt_of_lt_of_le hk h.size) (fun e => by have := hr k e.symm; omega)).trans (h.block k hk hc)⟩
theorem saves_belowP {C : Nat} {a b c : World} (h : Saves C a b) (k : Below b.heap.size b c) : Saves C a c := h.trans (Saves.of_below k)
theorem own_numP {w : World} {base : Nat} {v : Value} {xs : List Int} {x : Int} (h : w.ownsRow base 3 1 v (xs.length + 1) (xs.flatMap vI ++ [.int .i64 x])) : Own w base 3 1 vI v (xs ++ [x]) := by
  unfold Own
  rw [List.flatMap_append, List.length_append]
  exact h
theorem joinC_len (c : UInt8) : ∀ ws : List (List UInt8), ws.length ≤ (joinC c ws).length + 1
  | [] => by simp
  | [w] => by simp
  | w :: x :: r => by
    have ih := joinC_len c (x :: r)
    rw [joinC_cons c w (by simp)]
    simp only [List.length_append, List.length_cons] at ih ⊢
    omega
theorem split_count {c : UInt8} {l : List UInt8} {ws : List (List UInt8)} (h : IsSplit c l ws) : ws.length ≤ l.length + 1 := by
  have := joinC_len c ws
  rw [h.2.1] at this
  exact this
theorem ParPost.nil_ {l : List UInt8} {w w' : World} (h : IsPar l zeroPar false) (b : Below w.heap.size w w') : ParPost l w (.returned (.tuple #[.agg #[.int .i64 0, .int .i64 0, .string ⟨#[]⟩, .string ⟨#[]⟩, .int .i64 0, .slice none 0 0, .int .i64 0], .bool false])) w' :=
  ⟨zeroPar, .slice none 0 0, false, rfl, h, Own.nil_ _ _ _ _ _, Nat.zero_le _, Nat.zero_le _, Nat.zero_le _, b⟩
theorem no_less {n : Nat} : ¬ n < n := Nat.lt_irrefl n
theorem below_allocP {a w : World} (h : Below a.heap.size a w) (o : Obj) : Below a.heap.size a (w.alloc o) := h.alloc h.size o
theorem cell_allocP {w : World} {p : Addr} {v : Value} (h : w.cell? p = some v) (o : Obj) : (w.alloc o).cell? p = some v := cell_keep ((Below.refl _ _).alloc (Nat.le_refl _) o) h
theorem cell_setP {w : World} {b o q j : Nat} {v : Value} (h : w.cell? ⟨b, o, none⟩ = some v) (hq : b ≠ q) (u : Value) : (w.setCell ⟨q, j, none⟩ u).cell? ⟨b, o, none⟩ = some v := (World.cell?_of_block (w := w) (Below.heap_setCell _ _ _ _ hq)).trans h
theorem grown_cellP {w w' : World} {row : Option Nat} (h : w.grownBy w' row) {p : Addr} {v : Value} (hc : w.cell? p = some v) (hr : some p.block ≠ row) : w'.cell? p = some v := (World.cell?_of_block (w := w) (h.block p.block (cell_lt hc) hr)).trans hc
theorem own_apartP {w : World} {base q j : Nat} {v : Value} {xs : List Int} (h : Own w base 3 1 vI v xs) (hq : q < base) (u : Value) : Own (w.setCell ⟨q, j, none⟩ u) base 3 1 vI v xs := ownsRow_setCell_below h hq u
theorem split_words {c : UInt8} {l : List UInt8} {ws : List ByteArray} (h : IsSplit c l (ws.map (·.data.toList))) : ∃ us, IsSplit c l us ∧ us = ws.map (·.data.toList) := ⟨_, h, rfl⟩
set_option maxHeartbeats 12800000 in
theorem parseParI (s : ByteArray) (w : World) (hs : s.size ≤ 16777216) (h : Errs w) (hm : MaxL w) : Calls Tryz.prog 6 #[.string s] w (ParPost s.data.toList w) := by
  have hl := data_len s
  have hs' : s.data.toList.length ≤ 16777216 := by omega
  clear hl
  go_enter Tryz.func6, Tryz.ntmps6
  go_wp2_with fail
  obtain ⟨W, hW⟩ : ∃ W, W = w.alloc (.cells #[.int .i64 0, .int .i64 0, .string ⟨#[]⟩, .string ⟨#[]⟩, .int .i64 0, .slice none 0 0, .int .i64 0] 26) := ⟨_, rfl⟩
  try rw [← hW]
  have P : Box W w.heap.size 26 #[.int .i64 0, .int .i64 0, .string ⟨#[]⟩, .string ⟨#[]⟩, .int .i64 0, .slice none 0 0, .int .i64 0] := by rw [hW]; exact Box.new _ _ _
  have bW : Below w.heap.size w W := by rw [hW]; go_grown
  clear hW
  have CC := splitIQ s 32 W (hm.keep bW) hs
  refine CC.mono ?_
  rintro e w1 ⟨v, xs, rfl, sl, HS, hx, -, b1⟩
  clear CC
  have B1 := chain bW b1
  replace P := P.keep b1
  clear bW b1
  by_cases h5 : xs.length = 5
  · obtain ⟨a, b, c, f, g, b_, off, cap, rfl, rfl, hcap, hcap2, x0, x1, x2, x3, x4⟩ := five_cellsP sl h5
    unfold maxLen at hcap2
    have za : a.size ≤ 16777216 := Nat.le_trans (hx a (by simp)) hs'
    have zb : b.size ≤ 16777216 := Nat.le_trans (hx b (by simp)) hs'
    have zc : c.size ≤ 16777216 := Nat.le_trans (hx c (by simp)) hs'
    have zf : f.size ≤ 16777216 := Nat.le_trans (hx f (by simp)) hs'
    have zg : g.size ≤ 16777216 := Nat.le_trans (hx g (by simp)) hs'
    have zf2 : f.size ≤ s.data.toList.length := hx f (by simp)
    have HZF := Lib.hid zf2
    have HS5 : Hid (IsSplit 32 s.data.toList [a.data.toList, b.data.toList, c.data.toList, f.data.toList, g.data.toList]) := HS
    clear HS sl hx h5 zf2
    have ne0 : b_ < w1.heap.size := cell_lt x0
    go_wp2_with fail
    obtain ⟨V, hV⟩ : ∃ V, V = w1.alloc (.cells #[.int .i64 0, .int .i64 0, .string ⟨#[]⟩, .string b, .int .i64 0, .slice none 0 0, .int .i64 0] 26) := ⟨_, rfl⟩
    rw [← hV]
    obtain ⟨q, hq⟩ : ∃ q, q = w1.heap.size := ⟨_, rfl⟩
    rw [← hq]
    have L : Box V q 26 #[.int .i64 0, .int .i64 0, .string ⟨#[]⟩, .string b, .int .i64 0, .slice none 0 0, .int .i64 0] := by rw [hV, hq]; exact Box.new _ _ _
    have bv : Below w1.heap.size w1 V := by rw [hV]; go_grown
    have lP := P.lt
    have nw : w.heap.size < q := by omega
    have nb' : b_ ≠ q := by omega
    replace P := P.keep bv
    replace x0 := cell_keep bv x0
    replace x2 := cell_keep bv x2
    replace x3 := cell_keep bv x3
    replace x4 := cell_keep bv x4
    have bV := chain B1 bv
    clear hV hq bv B1 x1 ne0 lP
    refine (parseLabI a _ (by omega) (h.keep bV)).mono ?_
    rintro e w2 ⟨⟨d1, d2, d3⟩, okl, rfl, HD, b2⟩
    simp only
    have hd3 : d3.size ≤ 16777216 := by have := HD.out.bd.2.2; simp only at this; omega
    have B2 := chain bV b2
    replace P := P.keep b2
    replace L := L.keep b2
    replace x2 := cell_keep b2 x2
    replace x3 := cell_keep b2 x3
    replace x4 := cell_keep b2 x4
    clear x0 bV b2
    have ne0 : b_ < w2.heap.size := cell_lt x2
    have nq : q < w2.heap.size := L.lt
    have l0 : w2.cell? ⟨q, 0, none⟩ = some (.int .i64 0) := L.cell 0
    have l1 : w2.cell? ⟨q, 1, none⟩ = some (.int .i64 0) := L.cell 1
    have l2 : w2.cell? ⟨q, 2, none⟩ = some (.string ⟨#[]⟩) := L.cell 2
    have lf : ∀ j, w2.frozen? ⟨q, j, none⟩ = false := fun j => L.frozen j
    go_wp2_with fail
    obtain ⟨U, hU⟩ : ∃ U, U = ((((w2).setCell ⟨q, 0, none⟩ (.int .i64 d1)).setCell ⟨q, 1, none⟩ (.int .i64 d2)).setCell ⟨q, 2, none⟩ (.string d3)) := ⟨_, rfl⟩
    rw [← hU]
    have bU : Below w.heap.size w U := by rw [hU]; repeat' (first | with_reducible exact B2 | with_reducible refine Below.setCell ?_ ?_ _ | with_reducible refine below_allocP ?_ _ | (simp only; omega))
    replace L : Box U q 26 #[.int .i64 d1, .int .i64 d2, .string d3, .string b, .int .i64 0, .slice none 0 0, .int .i64 0] := by rw [hU]; exact (((L).set 0 _).set 1 _).set 2 _
    replace P : Box U w.heap.size 26 #[.int .i64 0, .int .i64 0, .string ⟨#[]⟩, .string ⟨#[]⟩, .int .i64 0, .slice none 0 0, .int .i64 0] := by rw [hU]; exact (((P).far (p := ⟨q, 0, none⟩) (by simp only; omega) _).far (p := ⟨q, 1, none⟩) (by simp only; omega) _).far (p := ⟨q, 2, none⟩) (by simp only; omega) _
    replace x2 : U.cell? ⟨b_, off + 2, none⟩ = some (.string c) := by rw [hU]; exact (cell_setP (cell_setP (cell_setP x2 nb' _) nb' _) nb' _)
    replace x3 : U.cell? ⟨b_, off + 3, none⟩ = some (.string f) := by rw [hU]; exact (cell_setP (cell_setP (cell_setP x3 nb' _) nb' _) nb' _)
    replace x4 : U.cell? ⟨b_, off + 4, none⟩ = some (.string g) := by rw [hU]; exact (cell_setP (cell_setP (cell_setP x4 nb' _) nb' _) nb' _)
    clear hU l0 l1 l2 lf B2 ne0 nq
    refine (parseI c _ (by omega) (h.keep bU)).mono ?_
    rintro e w3 ⟨n, okn, rfl, HN, n0, n1, b3⟩
    have B3 := chain bU b3
    replace P := P.keep b3
    replace L := L.keep b3
    replace x3 := cell_keep b3 x3
    replace x4 := cell_keep b3 x4
    clear x2 bU b3
    have ne0 : b_ < w3.heap.size := cell_lt x3
    have nq : q < w3.heap.size := L.lt
    have l4 : w3.cell? ⟨q, 4, none⟩ = some (.int .i64 0) := L.cell 4
    have lf : ∀ j, w3.frozen? ⟨q, j, none⟩ = false := fun j => L.frozen j
    go_wp2_with fail
    obtain ⟨X, hX⟩ : ∃ X, X = w3.setCell ⟨q, 4, none⟩ (.int .i64 n) := ⟨_, rfl⟩
    rw [← hX]
    have bX : Below w.heap.size w X := by rw [hX]; exact B3.setCell (by simp only; omega) _
    replace L : Box X q 26 #[.int .i64 d1, .int .i64 d2, .string d3, .string b, .int .i64 n, .slice none 0 0, .int .i64 0] := by rw [hX]; exact L.set 4 _
    replace P : Box X w.heap.size 26 #[.int .i64 0, .int .i64 0, .string ⟨#[]⟩, .string ⟨#[]⟩, .int .i64 0, .slice none 0 0, .int .i64 0] := by rw [hX]; exact P.far (p := ⟨q, 4, none⟩) (by simp only; omega) _
    replace x3 : X.cell? ⟨b_, off + 3, none⟩ = some (.string f) := by rw [hX]; exact cell_setP x3 nb' _
    replace x4 : X.cell? ⟨b_, off + 4, none⟩ = some (.string g) := by rw [hX]; exact cell_setP x4 nb' _
    clear hX l4 lf B3 ne0 nq
    refine (parseI g _ (by omega) (h.keep bX)).mono ?_
    rintro e w4 ⟨r, okr, rfl, HR, r0, r1, b4⟩
    have B4 := chain bX b4
    replace P := P.keep b4
    replace L := L.keep b4
    replace x3 := cell_keep b4 x3
    clear x4 bX b4
    have ne0 : b_ < w4.heap.size := cell_lt x3
    have nq : q < w4.heap.size := L.lt
    have l6 : w4.cell? ⟨q, 6, none⟩ = some (.int .i64 0) := L.cell 6
    have lf : ∀ j, w4.frozen? ⟨q, j, none⟩ = false := fun j => L.frozen j
    go_wp2_with fail
    obtain ⟨Y, hY⟩ : ∃ Y, Y = w4.setCell ⟨q, 6, none⟩ (.int .i64 r) := ⟨_, rfl⟩
    rw [← hY]
    have bY : Below w.heap.size w Y := by rw [hY]; exact B4.setCell (by simp only; omega) _
    replace L : Box Y q 26 #[.int .i64 d1, .int .i64 d2, .string d3, .string b, .int .i64 n, .slice none 0 0, .int .i64 r] := by rw [hY]; exact L.set 6 _
    replace P : Box Y w.heap.size 26 #[.int .i64 0, .int .i64 0, .string ⟨#[]⟩, .string ⟨#[]⟩, .int .i64 0, .slice none 0 0, .int .i64 0] := by rw [hY]; exact P.far (p := ⟨q, 6, none⟩) (by simp only; omega) _
    clear hY l6 lf B4 ne0 nq x3
    have Lq := L.lt
    have CC := splitIQ f 120 Y (hm.keep bY) zf
    refine CC.mono ?_
    rintro e w7 ⟨v2, ws, rfl, sl2, HS2, hx2, hfr, b7⟩
    clear CC
    have B7 := chain bY b7
    replace P := P.keep b7
    replace L := L.keep b7
    skip
    have nq : q < w7.heap.size := L.lt
    have hqY : ∀ b off n c, v2 = .slice (some ⟨b, off, none⟩) n c → b ≠ q := fun b off n c e => by have := hfr b off n c e; have := Lq; omega
    clear b7 bY hfr Lq
    obtain ⟨A2, cap2, rfl, hcap3, hcap4⟩ := sl2.form
    unfold maxLen at hcap4
    have hcnt := split_count HS2.out
    rw [List.length_map, data_len] at hcnt
    have HW := Lib.hid (split_words HS2.out)
    obtain ⟨i0, hi, hq0, hq1, hq2⟩ := info_parts info_int
    go_wp2_with fail
    go_loopw [7, 8, 9, 49] (fun _ _ _ iv wr => ∃ (k : Nat) (ns : List Int) (sv : Value), k ≤ ws.length ∧ iv = .int .i64 k ∧ Box wr w.heap.size 26 #[.int .i64 0, .int .i64 0, .string ⟨#[]⟩, .string ⟨#[]⟩, .int .i64 0, .slice none 0 0, .int .i64 0] ∧ Box wr q 26 #[.int .i64 d1, .int .i64 d2, .string d3, .string b, .int .i64 n, sv, .int .i64 r] ∧ Own wr w7.heap.size 3 1 vI sv ns ∧ Hid (Nums ((ws.take k).map (·.data.toList)) ns) ∧ ns.length = k ∧ Saves q w7 wr) (fun _ _ _ iv _ => ws.length - (intOf iv).toNat)
    case atStart => exact ⟨0, [], .slice none 0 0, Nat.zero_le _, rfl, P, L, Own.nil_ _ _ _ _ _, Lib.hid .nil, rfl, Saves.refl _ _⟩
    case round =>
      clear P L 
      obtain ⟨k, ns, sv, hk, rfl, P, L, hO, HNS, hnl, SV⟩ := hrel
      have bR : Below w.heap.size w wr := B7.trans (SV.below (Nat.le_of_lt nw) B7.size)
      have nl0 : ns.length ≤ ws.length := by omega
      have HNL := Lib.hid hnl; clear hnl
      have zR := SV.size
      have nq2 : q < wr.heap.size := L.lt
      by_cases hlt : k < ws.length
      · have slr := slice_savesP sl2 SV hqY
        obtain ⟨g_, o_, y, rfl, hg_, hy, hcell⟩ := slr.cells hlt
        have cy : wr.cell? ⟨g_, o_ + k, none⟩ = some (.string y) := by simpa using hcell 0 _ rfl
        have zy : y.size ≤ 16777216 := by have := hx2 y (mem_of hy.out); have := data_len f; omega
        clear slr hcell
        have k0 : (0 : Int) ≤ (k : Int) := by omega
        have k1 : (k : Int) < (ws.length : Int) := by omega
        go_wp2_with fail
        refine (parseI y _ (by omega) (h.keep bR)).mono ?_
        rintro e w8 ⟨m, okm, rfl, HM, m0, m1, b8⟩
        have hns := Nums.snoc HNS.out HM.out
        rw [show (ws.take k).map (·.data.toList) ++ [y.data.toList] = (ws.take (k + 1)).map (·.data.toList) by rw [List.take_succ_eq_append_getElem hlt, List.map_append]; have := hy.out; rw [List.getElem?_eq_getElem hlt] at this; injection this with this; rw [this]; rfl] at hns
        have HNS2 := Lib.hid hns; clear hns
        replace P := P.keep b8
        replace L := L.keep b8
        replace hO := hO.keep b8 (Nat.le_refl _)
        replace SV := saves_belowP SV b8
        skip
        have z8 := b8.size
        clear b8 cy
        have nq3 : q < w8.heap.size := L.lt
        have l5 : w8.cell? ⟨q, 5, none⟩ = some sv := L.cell 5
        have lf : ∀ j, w8.frozen? ⟨q, j, none⟩ = false := fun j => L.frozen j
        have ha := World.ownsRow.alloc hO (.cells #[.int .i64 m] 3)
        go_wp2_with (at_builtin; refine wpList_append_own _ rfl (.tmp 59) (.tmp 61) 24 rfl w7.heap.size 3 i0 (.int .i64 0) 1 8 Tryz.underlying24 hi hq0 hq1 hq2 rfl (by decide) _ _ _ rfl ha _ 1 1 [.int .i64 m] rfl rfl ?c1 ?c2 ?c3 ?c4 ?c5 ?_)
        try (case c1 =>
          intro j u hj
          match j, hj with
          | 0, hj => simp at hj; subst hj; simp [go_sem, Addr.add])
        case c2 => first | (intro u hu; simp at hu; subst hu; rfl) | rfl
        case c3 => unfold maxLen; omega
        case c4 => omega
        case c5 => simp; omega
        intro v' w9 hown' hgrow _
        have hO9 : Own w9 w7.heap.size 3 1 vI v' (ns ++ [m]) := own_numP hown'
        obtain ⟨A9, c9, e9, -, -⟩ := hO9.form
        rw [show (ns ++ [m]).length = ns.length + 1 by simp] at e9
        subst e9
        have hrow : ∀ z, sv.ownBlock = some z → w7.heap.size ≤ z := fun z hz => (World.ownsRow.lt hO z hz).1
        have P9 := (P.alloc (.cells #[.int .i64 m] 3)).grown hgrow (fun e => by have := hrow _ e.symm; omega)
        have L9 := (L.alloc (.cells #[.int .i64 m] 3)).grown hgrow (fun e => by have := hrow _ e.symm; omega)
        have S9 := saves_grownP (SV.alloc (.cells #[.int .i64 m] 3)) hgrow hrow
        skip
        have z9 := hgrow.size
        clear hown' hgrow hO P L SV l5 lf ha 
        have l5 : w9.cell? ⟨q, 5, none⟩ = some sv := L9.cell 5
        have lf : ∀ j, w9.frozen? ⟨q, j, none⟩ = false := fun j => L9.frozen j
        have HN9 := Lib.hid (show (ns ++ [m]).length = k + 1 by rw [List.length_append, HNL.out]; rfl)
        go_wp2_with fail
        go_roundw
        case rel => exact ⟨k + 1, ns ++ [m], _, by omega, by go_num, P9.far (p := ⟨q, 5, none⟩) (by simp only; omega) _, L9.set 5 _, own_apartP hO9 (by omega) _, HNS2, HN9.out, S9.setCell rfl _⟩
        case measure => simp [intOf]; omega
      · obtain rfl : k = ws.length := by omega
        rw [List.take_length] at HNS
        obtain ⟨A5, c5, e5, -, -⟩ := hO.form
        subst e5
        clear sl2 hx2 hqY HW
        have sne := split_ne5 HS5.out
        have q0 : s.toList.isEmpty = false := by rw [Lib.toList_data]; exact List.isEmpty_eq_false_iff.2 sne
        clear sne SV zR
        have l0 : wr.cell? ⟨q, 0, none⟩ = some (.int .i64 d1) := L.cell 0
        have l1 : wr.cell? ⟨q, 1, none⟩ = some (.int .i64 d2) := L.cell 1
        have l2 : wr.cell? ⟨q, 2, none⟩ = some (.string d3) := L.cell 2
        have l3 : wr.cell? ⟨q, 3, none⟩ = some (.string b) := L.cell 3
        have l4 : wr.cell? ⟨q, 4, none⟩ = some (.int .i64 n) := L.cell 4
        have l5 : wr.cell? ⟨q, 5, none⟩ = some (.slice A5 ns.length c5) := L.cell 5
        have l6 : wr.cell? ⟨q, 6, none⟩ = some (.int .i64 r) := L.cell 6
        go_wp2_with fail
        refine (parI d1 d2 d3 b n ns r _ _ (by unfold maxLen; omega) (by unfold maxLen; omega) (hO.slice vI_len (by omega)) (h.keep bR).1).mono ?_
        rintro e w9 ⟨t, rfl, HT, hz, b9⟩
        clear hz l0 l1 l2 l3 l4 l5 l6
        replace P := P.keep b9
        replace L := L.keep b9
        replace hO := hO.keep b9 (Nat.le_refl _)
        have B9 := chain bR b9
        have p0 : w9.cell? ⟨w.heap.size, 0, none⟩ = some (.int .i64 0) := P.cell 0
        have p1 : w9.cell? ⟨w.heap.size, 1, none⟩ = some (.int .i64 0) := P.cell 1
        have p2 : w9.cell? ⟨w.heap.size, 2, none⟩ = some (.string ⟨#[]⟩) := P.cell 2
        have p3 : w9.cell? ⟨w.heap.size, 3, none⟩ = some (.string ⟨#[]⟩) := P.cell 3
        have p4 : w9.cell? ⟨w.heap.size, 4, none⟩ = some (.int .i64 0) := P.cell 4
        have p5 : w9.cell? ⟨w.heap.size, 5, none⟩ = some (.slice none 0 0) := P.cell 5
        have p6 : w9.cell? ⟨w.heap.size, 6, none⟩ = some (.int .i64 0) := P.cell 6
        have pf : ∀ j, w9.frozen? ⟨w.heap.size, j, none⟩ = false := fun j => P.frozen j
        have l0 : w9.cell? ⟨q, 0, none⟩ = some (.int .i64 d1) := L.cell 0
        have l1 : w9.cell? ⟨q, 1, none⟩ = some (.int .i64 d2) := L.cell 1
        have l2 : w9.cell? ⟨q, 2, none⟩ = some (.string d3) := L.cell 2
        have l3 : w9.cell? ⟨q, 3, none⟩ = some (.string b) := L.cell 3
        have l4 : w9.cell? ⟨q, 4, none⟩ = some (.int .i64 n) := L.cell 4
        have l5 : w9.cell? ⟨q, 5, none⟩ = some (.slice A5 ns.length c5) := L.cell 5
        have l6 : w9.cell? ⟨q, 6, none⟩ = some (.int .i64 r) := L.cell 6
        have LR : Hid (ParRead s.data.toList a.data.toList b.data.toList c.data.toList f.data.toList g.data.toList ⟨⟨d1, d2, d3⟩, b, n, ns, r⟩) := Lib.hid ⟨HS5.out, ⟨_, HD.out⟩, rfl, ⟨_, HN.out⟩, ⟨_, HS2.out, HNS.out⟩, ⟨_, HR.out⟩⟩
        have hlen : ns.length ≤ s.data.toList.length + 1 := by have := HNL.out; have := HZF.out; omega
        have HLEN := Lib.hid hlen
        clear HS5 HD HN HS2 HNS HR hlen
        cases hq : (t.toList == s.toList)
        · have HF := Lib.hid (par_no LR.out (diff_list HT.out hq))
          have hq' : (t.toList != s.toList) = true := by simp [bne, hq]
          go_wp2_with fail
          refine bodyPost_ret (v := .tuple #[.agg #[.int .i64 0, .int .i64 0, .string ⟨#[]⟩, .string ⟨#[]⟩, .int .i64 0, .slice none 0 0, .int .i64 0], .bool false]) (by simp [results, Tryz.results6, go_sem, p0, p1, p2, p3, p4, p5, p6]) rfl (ParPost.nil_ HF.out ?_)
          repeat' (first | with_reducible exact B9 | with_reducible refine Below.setCell ?_ ?_ _ | (simp only; omega))
        · have HF := Lib.hid (par_yes (split_ne5 LR.out.1) (same_list HT.out hq))
          have hq' : (t.toList != s.toList) = false := by simp [bne, hq]
          go_wp2_with fail
          refine bodyPost_ret (v := .tuple #[.agg #[.int .i64 d1, .int .i64 d2, .string d3, .string b, .int .i64 n, .slice A5 ns.length c5, .int .i64 r], .bool true]) (by simp [results, Tryz.results6, go_sem, p0, p1, p2, p3, p4, p5, p6]) rfl ⟨⟨⟨d1, d2, d3⟩, b, n, ns, r⟩, _, true, rfl, HF, ?_, hd3, zb, HLEN.out, ?_⟩
          · refine Own.mono (base := w7.heap.size) ?_ (by omega)
            repeat' (first | with_reducible exact hO | refine own_apartP ?_ (by omega) _)
          · repeat' (first | with_reducible exact B9 | with_reducible refine Below.setCell ?_ ?_ _ | (simp only; omega))
  · have HL := Lib.hid (par_len HS.out (by simpa using h5))
    have h5' : ((xs.length : Int) != 5) = true := by simp; omega
    obtain ⟨A, cap, rfl, hcap, hcap2⟩ := sl.form
    unfold maxLen at hcap2
    have p0 : w1.cell? ⟨w.heap.size, 0, none⟩ = some (.int .i64 0) := P.cell 0
    have p1 : w1.cell? ⟨w.heap.size, 1, none⟩ = some (.int .i64 0) := P.cell 1
    have p2 : w1.cell? ⟨w.heap.size, 2, none⟩ = some (.string ⟨#[]⟩) := P.cell 2
    have p3 : w1.cell? ⟨w.heap.size, 3, none⟩ = some (.string ⟨#[]⟩) := P.cell 3
    have p4 : w1.cell? ⟨w.heap.size, 4, none⟩ = some (.int .i64 0) := P.cell 4
    have p5 : w1.cell? ⟨w.heap.size, 5, none⟩ = some (.slice none 0 0) := P.cell 5
    have p6 : w1.cell? ⟨w.heap.size, 6, none⟩ = some (.int .i64 0) := P.cell 6
    have pf : ∀ j, w1.frozen? ⟨w.heap.size, j, none⟩ = false := fun j => P.frozen j
    go_wp2_with fail
    refine bodyPost_ret (v := .tuple #[.agg #[.int .i64 0, .int .i64 0, .string ⟨#[]⟩, .string ⟨#[]⟩, .int .i64 0, .slice none 0 0, .int .i64 0], .bool false]) (by simp [results, Tryz.results6, go_sem, p0, p1, p2, p3, p4, p5, p6]) rfl (ParPost.nil_ HL.out ?_)
    repeat' (first | with_reducible exact B1 | with_reducible refine Below.setCell ?_ ?_ _ | (simp only; omega))
set_option maxHeartbeats 12800000 in
theorem parseParS (s : ByteArray) (w : World) (hs : s.size ≤ 16777216) (ht : Tabs w) : Calls Tryz.prog 5 #[.string s] w (ParPost s.data.toList w) := by
  have hl := data_len s
  have hs' : s.data.toList.length ≤ 16777216 := by omega
  clear hl
  go_enter Tryz.func5, Tryz.ntmps5
  go_wp2_with fail
  obtain ⟨W, hW⟩ : ∃ W, W = w.alloc (.cells #[.int .i64 0, .int .i64 0, .string ⟨#[]⟩, .string ⟨#[]⟩, .int .i64 0, .slice none 0 0, .int .i64 0] 26) := ⟨_, rfl⟩
  try rw [← hW]
  have P : Box W w.heap.size 26 #[.int .i64 0, .int .i64 0, .string ⟨#[]⟩, .string ⟨#[]⟩, .int .i64 0, .slice none 0 0, .int .i64 0] := by rw [hW]; exact Box.new _ _ _
  have bW : Below w.heap.size w W := by rw [hW]; go_grown
  clear hW
  have CC := splitSQ s 32 W hs
  refine CC.mono ?_
  rintro e w1 ⟨v, xs, rfl, sl, HS, hx, -, b1⟩
  clear CC
  have B1 := chain bW b1
  replace P := P.keep b1
  clear bW b1
  by_cases h5 : xs.length = 5
  · obtain ⟨a, b, c, f, g, b_, off, cap, rfl, rfl, hcap, hcap2, x0, x1, x2, x3, x4⟩ := five_cellsP sl h5
    unfold maxLen at hcap2
    have za : a.size ≤ 16777216 := Nat.le_trans (hx a (by simp)) hs'
    have zb : b.size ≤ 16777216 := Nat.le_trans (hx b (by simp)) hs'
    have zc : c.size ≤ 16777216 := Nat.le_trans (hx c (by simp)) hs'
    have zf : f.size ≤ 16777216 := Nat.le_trans (hx f (by simp)) hs'
    have zg : g.size ≤ 16777216 := Nat.le_trans (hx g (by simp)) hs'
    have zf2 : f.size ≤ s.data.toList.length := hx f (by simp)
    have HZF := Lib.hid zf2
    have HS5 : Hid (IsSplit 32 s.data.toList [a.data.toList, b.data.toList, c.data.toList, f.data.toList, g.data.toList]) := HS
    clear HS sl hx h5 zf2
    have ne0 : b_ < w1.heap.size := cell_lt x0
    go_wp2_with fail
    obtain ⟨V, hV⟩ : ∃ V, V = w1.alloc (.cells #[.int .i64 0, .int .i64 0, .string ⟨#[]⟩, .string b, .int .i64 0, .slice none 0 0, .int .i64 0] 26) := ⟨_, rfl⟩
    rw [← hV]
    obtain ⟨q, hq⟩ : ∃ q, q = w1.heap.size := ⟨_, rfl⟩
    rw [← hq]
    have L : Box V q 26 #[.int .i64 0, .int .i64 0, .string ⟨#[]⟩, .string b, .int .i64 0, .slice none 0 0, .int .i64 0] := by rw [hV, hq]; exact Box.new _ _ _
    have bv : Below w1.heap.size w1 V := by rw [hV]; go_grown
    have lP := P.lt
    have nw : w.heap.size < q := by omega
    have nb' : b_ ≠ q := by omega
    replace P := P.keep bv
    replace x0 := cell_keep bv x0
    replace x2 := cell_keep bv x2
    replace x3 := cell_keep bv x3
    replace x4 := cell_keep bv x4
    have bV := chain B1 bv
    clear hV hq bv B1 x1 ne0 lP
    refine (parseLabS a _ (by omega) (Tabs.keep ht bV)).mono ?_
    rintro e w2 ⟨⟨d1, d2, d3⟩, okl, rfl, HD, b2⟩
    simp only
    have hd3 : d3.size ≤ 16777216 := by have := HD.out.bd.2.2; simp only at this; omega
    have B2 := chain bV b2
    replace P := P.keep b2
    replace L := L.keep b2
    replace x2 := cell_keep b2 x2
    replace x3 := cell_keep b2 x3
    replace x4 := cell_keep b2 x4
    clear x0 bV b2
    have ne0 : b_ < w2.heap.size := cell_lt x2
    have nq : q < w2.heap.size := L.lt
    have l0 : w2.cell? ⟨q, 0, none⟩ = some (.int .i64 0) := L.cell 0
    have l1 : w2.cell? ⟨q, 1, none⟩ = some (.int .i64 0) := L.cell 1
    have l2 : w2.cell? ⟨q, 2, none⟩ = some (.string ⟨#[]⟩) := L.cell 2
    have lf : ∀ j, w2.frozen? ⟨q, j, none⟩ = false := fun j => L.frozen j
    go_wp2_with fail
    obtain ⟨U, hU⟩ : ∃ U, U = ((((w2).setCell ⟨q, 0, none⟩ (.int .i64 d1)).setCell ⟨q, 1, none⟩ (.int .i64 d2)).setCell ⟨q, 2, none⟩ (.string d3)).alloc (.cells #[.int .i64 d1, .int .i64 d2, .string d3] 23) := ⟨_, rfl⟩
    rw [← hU]
    have bU : Below w.heap.size w U := by rw [hU]; repeat' (first | with_reducible exact B2 | with_reducible refine Below.setCell ?_ ?_ _ | with_reducible refine below_allocP ?_ _ | (simp only; omega))
    replace L : Box U q 26 #[.int .i64 d1, .int .i64 d2, .string d3, .string b, .int .i64 0, .slice none 0 0, .int .i64 0] := by rw [hU]; exact (((L).set 0 _).set 1 _).set 2 _ |>.alloc _
    replace P : Box U w.heap.size 26 #[.int .i64 0, .int .i64 0, .string ⟨#[]⟩, .string ⟨#[]⟩, .int .i64 0, .slice none 0 0, .int .i64 0] := by rw [hU]; exact (((P).far (p := ⟨q, 0, none⟩) (by simp only; omega) _).far (p := ⟨q, 1, none⟩) (by simp only; omega) _).far (p := ⟨q, 2, none⟩) (by simp only; omega) _ |>.alloc _
    replace x2 : U.cell? ⟨b_, off + 2, none⟩ = some (.string c) := by rw [hU]; exact cell_allocP (cell_setP (cell_setP (cell_setP x2 nb' _) nb' _) nb' _) _
    replace x3 : U.cell? ⟨b_, off + 3, none⟩ = some (.string f) := by rw [hU]; exact cell_allocP (cell_setP (cell_setP (cell_setP x3 nb' _) nb' _) nb' _) _
    replace x4 : U.cell? ⟨b_, off + 4, none⟩ = some (.string g) := by rw [hU]; exact cell_allocP (cell_setP (cell_setP (cell_setP x4 nb' _) nb' _) nb' _) _
    clear hU l0 l1 l2 lf B2 ne0 nq
    refine (parseS c _ (by omega)).mono ?_
    rintro e w3 ⟨n, okn, rfl, HN, n0, n1, b3⟩
    have B3 := chain bU b3
    replace P := P.keep b3
    replace L := L.keep b3
    replace x3 := cell_keep b3 x3
    replace x4 := cell_keep b3 x4
    clear x2 bU b3
    have ne0 : b_ < w3.heap.size := cell_lt x3
    have nq : q < w3.heap.size := L.lt
    have l4 : w3.cell? ⟨q, 4, none⟩ = some (.int .i64 0) := L.cell 4
    have lf : ∀ j, w3.frozen? ⟨q, j, none⟩ = false := fun j => L.frozen j
    go_wp2_with fail
    obtain ⟨X, hX⟩ : ∃ X, X = w3.setCell ⟨q, 4, none⟩ (.int .i64 n) := ⟨_, rfl⟩
    rw [← hX]
    have bX : Below w.heap.size w X := by rw [hX]; exact B3.setCell (by simp only; omega) _
    replace L : Box X q 26 #[.int .i64 d1, .int .i64 d2, .string d3, .string b, .int .i64 n, .slice none 0 0, .int .i64 0] := by rw [hX]; exact L.set 4 _
    replace P : Box X w.heap.size 26 #[.int .i64 0, .int .i64 0, .string ⟨#[]⟩, .string ⟨#[]⟩, .int .i64 0, .slice none 0 0, .int .i64 0] := by rw [hX]; exact P.far (p := ⟨q, 4, none⟩) (by simp only; omega) _
    replace x3 : X.cell? ⟨b_, off + 3, none⟩ = some (.string f) := by rw [hX]; exact cell_setP x3 nb' _
    replace x4 : X.cell? ⟨b_, off + 4, none⟩ = some (.string g) := by rw [hX]; exact cell_setP x4 nb' _
    clear hX l4 lf B3 ne0 nq
    have Lq := L.lt
    have CC := splitSQ f 120 X zf
    refine CC.mono ?_
    rintro e w7 ⟨v2, ws, rfl, sl2, HS2, hx2, hfr, b7⟩
    clear CC
    have B7 := chain bX b7
    replace P := P.keep b7
    replace L := L.keep b7
    replace x4 := cell_keep b7 x4; have x4lt : b_ < w7.heap.size := cell_lt x4
    have nq : q < w7.heap.size := L.lt
    have hqY : ∀ b off n c, v2 = .slice (some ⟨b, off, none⟩) n c → b ≠ q := fun b off n c e => by have := hfr b off n c e; have := Lq; omega
    clear b7 bX hfr Lq
    obtain ⟨A2, cap2, rfl, hcap3, hcap4⟩ := sl2.form
    unfold maxLen at hcap4
    have hcnt := split_count HS2.out
    rw [List.length_map, data_len] at hcnt
    have HW := Lib.hid (split_words HS2.out)
    obtain ⟨i0, hi, hq0, hq1, hq2⟩ := info_parts info_int
    go_wp2_with fail
    go_loopw [11, 12, 13] (fun iv _ _ wr => ∃ (k : Nat) (ns : List Int) (sv : Value), k ≤ ws.length ∧ iv = .int .i64 k ∧ Box wr w.heap.size 26 #[.int .i64 0, .int .i64 0, .string ⟨#[]⟩, .string ⟨#[]⟩, .int .i64 0, .slice none 0 0, .int .i64 0] ∧ Box wr q 26 #[.int .i64 d1, .int .i64 d2, .string d3, .string b, .int .i64 n, sv, .int .i64 0] ∧ Own wr w7.heap.size 3 1 vI sv ns ∧ Hid (Nums ((ws.take k).map (·.data.toList)) ns) ∧ ns.length = k ∧ Saves q w7 wr ∧ wr.cell? ⟨b_, off + 4, none⟩ = some (.string g)) (fun iv _ _ _ => ws.length - (intOf iv).toNat)
    case atStart => exact ⟨0, [], .slice none 0 0, Nat.zero_le _, rfl, P, L, Own.nil_ _ _ _ _ _, Lib.hid .nil, rfl, Saves.refl _ _, x4⟩
    case round =>
      clear P L x4
      obtain ⟨k, ns, sv, hk, rfl, P, L, hO, HNS, hnl, SV, x4⟩ := hrel
      have bR : Below w.heap.size w wr := B7.trans (SV.below (Nat.le_of_lt nw) B7.size)
      have nl0 : ns.length ≤ ws.length := by omega
      have HNL := Lib.hid hnl; clear hnl
      have zR := SV.size
      have nq2 : q < wr.heap.size := L.lt
      by_cases hlt : k < ws.length
      · have slr := slice_savesP sl2 SV hqY
        obtain ⟨g_, o_, y, rfl, hg_, hy, hcell⟩ := slr.cells hlt
        have cy : wr.cell? ⟨g_, o_ + k, none⟩ = some (.string y) := by simpa using hcell 0 _ rfl
        have zy : y.size ≤ 16777216 := by have := hx2 y (mem_of hy.out); have := data_len f; omega
        clear slr hcell
        have k0 : (0 : Int) ≤ (k : Int) := by omega
        have k1 : (k : Int) < (ws.length : Int) := by omega
        go_wp2_with fail
        refine (parseS y _ (by omega)).mono ?_
        rintro e w8 ⟨m, okm, rfl, HM, m0, m1, b8⟩
        have hns := Nums.snoc HNS.out HM.out
        rw [show (ws.take k).map (·.data.toList) ++ [y.data.toList] = (ws.take (k + 1)).map (·.data.toList) by rw [List.take_succ_eq_append_getElem hlt, List.map_append]; have := hy.out; rw [List.getElem?_eq_getElem hlt] at this; injection this with this; rw [this]; rfl] at hns
        have HNS2 := Lib.hid hns; clear hns
        replace P := P.keep b8
        replace L := L.keep b8
        replace hO := hO.keep b8 (Nat.le_refl _)
        replace SV := saves_belowP SV b8
        replace x4 := cell_keep b8 x4
        have z8 := b8.size
        clear b8 cy
        have nq3 : q < w8.heap.size := L.lt
        have l5 : w8.cell? ⟨q, 5, none⟩ = some sv := L.cell 5
        have lf : ∀ j, w8.frozen? ⟨q, j, none⟩ = false := fun j => L.frozen j
        have ha := World.ownsRow.alloc hO (.cells #[.int .i64 m] 3)
        go_wp2_with (at_builtin; refine wpList_append_own _ rfl (.tmp 63) (.tmp 65) 24 rfl w7.heap.size 3 i0 (.int .i64 0) 1 8 Tryz.underlying24 hi hq0 hq1 hq2 rfl (by decide) _ _ _ rfl ha _ 1 1 [.int .i64 m] rfl rfl ?c1 ?c2 ?c3 ?c4 ?c5 ?_)
        try (case c1 =>
          intro j u hj
          match j, hj with
          | 0, hj => simp at hj; subst hj; simp [go_sem, Addr.add])
        case c2 => first | (intro u hu; simp at hu; subst hu; rfl) | rfl
        case c3 => unfold maxLen; omega
        case c4 => omega
        case c5 => simp; omega
        intro v' w9 hown' hgrow _
        have hO9 : Own w9 w7.heap.size 3 1 vI v' (ns ++ [m]) := own_numP hown'
        obtain ⟨A9, c9, e9, -, -⟩ := hO9.form
        rw [show (ns ++ [m]).length = ns.length + 1 by simp] at e9
        subst e9
        have hrow : ∀ z, sv.ownBlock = some z → w7.heap.size ≤ z := fun z hz => (World.ownsRow.lt hO z hz).1
        have P9 := (P.alloc (.cells #[.int .i64 m] 3)).grown hgrow (fun e => by have := hrow _ e.symm; omega)
        have L9 := (L.alloc (.cells #[.int .i64 m] 3)).grown hgrow (fun e => by have := hrow _ e.symm; omega)
        have S9 := saves_grownP (SV.alloc (.cells #[.int .i64 m] 3)) hgrow hrow
        have x49 := grown_cellP hgrow (cell_allocP x4 (.cells #[.int .i64 m] 3)) (fun e => by have := hrow _ e.symm; have := cell_lt x4; have := x4lt; simp only at *; omega)
        have z9 := hgrow.size
        clear hown' hgrow hO P L SV l5 lf ha x4
        have l5 : w9.cell? ⟨q, 5, none⟩ = some sv := L9.cell 5
        have lf : ∀ j, w9.frozen? ⟨q, j, none⟩ = false := fun j => L9.frozen j
        have HN9 := Lib.hid (show (ns ++ [m]).length = k + 1 by rw [List.length_append, HNL.out]; rfl)
        go_wp2_with fail
        go_roundw
        case rel => exact ⟨k + 1, ns ++ [m], _, by omega, by go_num, P9.far (p := ⟨q, 5, none⟩) (by simp only; omega) _, L9.set 5 _, own_apartP hO9 (by omega) _, HNS2, HN9.out, S9.setCell rfl _, cell_setP x49 nb' _⟩
        case measure => simp [intOf]; omega
      · obtain rfl : k = ws.length := by omega
        rw [List.take_length] at HNS
        obtain ⟨A5, c5, e5, -, -⟩ := hO.form
        subst e5
        clear sl2 hx2 hqY HW
        have ne0 : b_ < wr.heap.size := cell_lt x4
        go_wp2_with fail
        refine (parseS g _ (by omega)).mono ?_
        rintro e w8 ⟨r, okr, rfl, HR, r0, r1, b8⟩
        replace P := P.keep b8
        replace L := L.keep b8
        replace hO := hO.keep b8 (Nat.le_refl _)
        have b8R := chain bR b8
        clear bR b8 ne0 x4 SV zR nq2
        have nq2 : q < w8.heap.size := L.lt
        have l0 : w8.cell? ⟨q, 0, none⟩ = some (.int .i64 d1) := L.cell 0
        have l1 : w8.cell? ⟨q, 1, none⟩ = some (.int .i64 d2) := L.cell 1
        have l2 : w8.cell? ⟨q, 2, none⟩ = some (.string d3) := L.cell 2
        have l3 : w8.cell? ⟨q, 3, none⟩ = some (.string b) := L.cell 3
        have l4 : w8.cell? ⟨q, 4, none⟩ = some (.int .i64 n) := L.cell 4
        have l5 : w8.cell? ⟨q, 5, none⟩ = some (.slice A5 ns.length c5) := L.cell 5
        have l6 : w8.cell? ⟨q, 6, none⟩ = some (.int .i64 0) := L.cell 6
        have lf : ∀ j, w8.frozen? ⟨q, j, none⟩ = false := fun j => L.frozen j
        have par0 := par_nolab HS5.out (d := ⟨d1, d2, d3⟩)
        cases okl
        · have HF := Lib.hid (par0 HD.out)
          have p0 : w8.cell? ⟨w.heap.size, 0, none⟩ = some (.int .i64 0) := P.cell 0
          have p1 : w8.cell? ⟨w.heap.size, 1, none⟩ = some (.int .i64 0) := P.cell 1
          have p2 : w8.cell? ⟨w.heap.size, 2, none⟩ = some (.string ⟨#[]⟩) := P.cell 2
          have p3 : w8.cell? ⟨w.heap.size, 3, none⟩ = some (.string ⟨#[]⟩) := P.cell 3
          have p4 : w8.cell? ⟨w.heap.size, 4, none⟩ = some (.int .i64 0) := P.cell 4
          have p5 : w8.cell? ⟨w.heap.size, 5, none⟩ = some (.slice none 0 0) := P.cell 5
          have p6 : w8.cell? ⟨w.heap.size, 6, none⟩ = some (.int .i64 0) := P.cell 6
          have pf : ∀ j, w8.frozen? ⟨w.heap.size, j, none⟩ = false := fun j => P.frozen j
          go_wp2_with fail
          refine bodyPost_ret (v := .tuple #[.agg #[.int .i64 0, .int .i64 0, .string ⟨#[]⟩, .string ⟨#[]⟩, .int .i64 0, .slice none 0 0, .int .i64 0], .bool false]) (by simp [results, Tryz.results5, go_sem, p0, p1, p2, p3, p4, p5, p6]) rfl (ParPost.nil_ HF.out ?_)
          repeat' (first | with_reducible exact b8R | with_reducible refine Below.setCell ?_ ?_ _ | (simp only; omega))
        clear par0
        go_wp2_with fail
        obtain ⟨Y, hY⟩ : ∃ Y, Y = w8.setCell ⟨q, 6, none⟩ (.int .i64 r) := ⟨_, rfl⟩
        rw [← hY]
        have bY : Below w.heap.size w Y := by rw [hY]; exact b8R.setCell (by simp only; omega) _
        replace L : Box Y q 26 #[.int .i64 d1, .int .i64 d2, .string d3, .string b, .int .i64 n, .slice A5 ns.length c5, .int .i64 r] := by rw [hY]; exact L.set 6 _
        replace P : Box Y w.heap.size 26 #[.int .i64 0, .int .i64 0, .string ⟨#[]⟩, .string ⟨#[]⟩, .int .i64 0, .slice none 0 0, .int .i64 0] := by rw [hY]; exact P.far (p := ⟨q, 6, none⟩) (by simp only; omega) _
        replace hO : Own Y w7.heap.size 3 1 vI (.slice A5 ns.length c5) ns := by rw [hY]; exact own_apartP hO nq _
        clear hY l0 l1 l2 l3 l4 l5 l6 lf b8R
        refine (parS d1 d2 d3 b n ns r _ _ (by unfold maxLen; omega) (by unfold maxLen; omega) (hO.slice vI_len (by omega)) (Tabs.keep ht bY)).mono ?_
        rintro e w9 ⟨t, rfl, HT, hz, b9⟩
        clear hz 
        replace P := P.keep b9
        replace L := L.keep b9
        replace hO := hO.keep b9 (Nat.le_refl _)
        have B9 := chain bY b9
        have p0 : w9.cell? ⟨w.heap.size, 0, none⟩ = some (.int .i64 0) := P.cell 0
        have p1 : w9.cell? ⟨w.heap.size, 1, none⟩ = some (.int .i64 0) := P.cell 1
        have p2 : w9.cell? ⟨w.heap.size, 2, none⟩ = some (.string ⟨#[]⟩) := P.cell 2
        have p3 : w9.cell? ⟨w.heap.size, 3, none⟩ = some (.string ⟨#[]⟩) := P.cell 3
        have p4 : w9.cell? ⟨w.heap.size, 4, none⟩ = some (.int .i64 0) := P.cell 4
        have p5 : w9.cell? ⟨w.heap.size, 5, none⟩ = some (.slice none 0 0) := P.cell 5
        have p6 : w9.cell? ⟨w.heap.size, 6, none⟩ = some (.int .i64 0) := P.cell 6
        have pf : ∀ j, w9.frozen? ⟨w.heap.size, j, none⟩ = false := fun j => P.frozen j
        have l0 : w9.cell? ⟨q, 0, none⟩ = some (.int .i64 d1) := L.cell 0
        have l1 : w9.cell? ⟨q, 1, none⟩ = some (.int .i64 d2) := L.cell 1
        have l2 : w9.cell? ⟨q, 2, none⟩ = some (.string d3) := L.cell 2
        have l3 : w9.cell? ⟨q, 3, none⟩ = some (.string b) := L.cell 3
        have l4 : w9.cell? ⟨q, 4, none⟩ = some (.int .i64 n) := L.cell 4
        have l5 : w9.cell? ⟨q, 5, none⟩ = some (.slice A5 ns.length c5) := L.cell 5
        have l6 : w9.cell? ⟨q, 6, none⟩ = some (.int .i64 r) := L.cell 6
        have LR : Hid (ParRead s.data.toList a.data.toList b.data.toList c.data.toList f.data.toList g.data.toList ⟨⟨d1, d2, d3⟩, b, n, ns, r⟩) := Lib.hid ⟨HS5.out, ⟨_, HD.out⟩, rfl, ⟨_, HN.out⟩, ⟨_, HS2.out, HNS.out⟩, ⟨_, HR.out⟩⟩
        have hlen : ns.length ≤ s.data.toList.length + 1 := by have := HNL.out; have := HZF.out; omega
        have HLEN := Lib.hid hlen
        clear HS5 HD HN HS2 HNS HR hlen
        cases hq : (t.toList == s.toList)
        · have HF := Lib.hid (par_no LR.out (diff_list HT.out hq))
          have hq' : (t.toList != s.toList) = true := by simp [bne, hq]
          go_wp2_with fail
          refine bodyPost_ret (v := .tuple #[.agg #[.int .i64 0, .int .i64 0, .string ⟨#[]⟩, .string ⟨#[]⟩, .int .i64 0, .slice none 0 0, .int .i64 0], .bool false]) (by simp [results, Tryz.results5, go_sem, p0, p1, p2, p3, p4, p5, p6]) rfl (ParPost.nil_ HF.out ?_)
          repeat' (first | with_reducible exact B9 | with_reducible refine Below.setCell ?_ ?_ _ | (simp only; omega))
        · have HF := Lib.hid (par_yes (split_ne5 LR.out.1) (same_list HT.out hq))
          have hq' : (t.toList != s.toList) = false := by simp [bne, hq]
          go_wp2_with fail
          refine bodyPost_ret (v := .tuple #[.agg #[.int .i64 d1, .int .i64 d2, .string d3, .string b, .int .i64 n, .slice A5 ns.length c5, .int .i64 r], .bool true]) (by simp [results, Tryz.results5, go_sem, p0, p1, p2, p3, p4, p5, p6]) rfl ⟨⟨⟨d1, d2, d3⟩, b, n, ns, r⟩, _, true, rfl, HF, ?_, hd3, zb, HLEN.out, ?_⟩
          · refine Own.mono (base := w7.heap.size) ?_ (by omega)
            repeat' (first | with_reducible exact hO | refine own_apartP ?_ (by omega) _)
          · repeat' (first | with_reducible exact B9 | with_reducible refine Below.setCell ?_ ?_ _ | (simp only; omega))
  · have HL := Lib.hid (par_len HS.out (by simpa using h5))
    have h5' : ((xs.length : Int) != 5) = true := by simp; omega
    obtain ⟨A, cap, rfl, hcap, hcap2⟩ := sl.form
    unfold maxLen at hcap2
    have p0 : w1.cell? ⟨w.heap.size, 0, none⟩ = some (.int .i64 0) := P.cell 0
    have p1 : w1.cell? ⟨w.heap.size, 1, none⟩ = some (.int .i64 0) := P.cell 1
    have p2 : w1.cell? ⟨w.heap.size, 2, none⟩ = some (.string ⟨#[]⟩) := P.cell 2
    have p3 : w1.cell? ⟨w.heap.size, 3, none⟩ = some (.string ⟨#[]⟩) := P.cell 3
    have p4 : w1.cell? ⟨w.heap.size, 4, none⟩ = some (.int .i64 0) := P.cell 4
    have p5 : w1.cell? ⟨w.heap.size, 5, none⟩ = some (.slice none 0 0) := P.cell 5
    have p6 : w1.cell? ⟨w.heap.size, 6, none⟩ = some (.int .i64 0) := P.cell 6
    have pf : ∀ j, w1.frozen? ⟨w.heap.size, j, none⟩ = false := fun j => P.frozen j
    go_wp2_with fail
    refine bodyPost_ret (v := .tuple #[.agg #[.int .i64 0, .int .i64 0, .string ⟨#[]⟩, .string ⟨#[]⟩, .int .i64 0, .slice none 0 0, .int .i64 0], .bool false]) (by simp [results, Tryz.results5, go_sem, p0, p1, p2, p3, p4, p5, p6]) rfl (ParPost.nil_ HL.out ?_)
    repeat' (first | with_reducible exact B1 | with_reducible refine Below.setCell ?_ ?_ _ | (simp only; omega))
end Go.Proofs.YteicnjemaemijaaGreatDoor
