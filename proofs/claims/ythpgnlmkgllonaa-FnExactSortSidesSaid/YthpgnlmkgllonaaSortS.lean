/- The reference's SortSides: numbers in falling order. No condition. -/
import Derived.Test.YthpgnlmkgllonaaSortJ
import Derived.Deep.RegionHeld3
namespace Go.Proofs.Ythpgnlmkgllonaa
open Go.RowKit Go.PlainAid
set_option maxRecDepth 100000
set_option linter.unusedVariables false
/-- append onto a row of the call's own, as a step of a region. -/
theorem step_append_own {P : Program} {ops : Array Oper} {o : Oper} {a : Act} {w : World} {K : Act → World → Prop} {Q : Exit → Act → World → Prop} {E : Prop} (hgd : o.guard = none) (s x : Operand) (t : TypeId)
    (ho : o.op = .call { callee := .builtin .append, args := #[s, x], argTypes := #[t, t] })
    (base : Nat) (e : TypeId) (i : TypeInfo) (z : Value) (size bytes : Nat) (ht : P.underlying t = some (.slice e)) (hi : P.info? e = some i) (hz : i.zero = some z)
    (hsize : i.size = size) (hby : i.bytes = bytes) (hzs : z.cells.size = size) (hsz : 0 < size)
    (v : Value) (n : Nat) (xs : List Value) (hs : a.eval s = v) (hown : w.ownsRow base e size v n xs)
    (ad : Addr) (m c : Nat) (news : List Value) (hx : a.eval x = .slice (some ad) m c) (hl : news.length = m * size) (hnews : ∀ j u, news[j]? = some u → w.cell? (ad.add j) = some u) (h1 : ∀ u ∈ news, u.oneCell' = true)
    (h63 : n + m ≤ maxLen) (hbytes : (n + m) * bytes ≤ 140737488355328) (hbase : base ≤ w.heap.size)
    (h : ∀ v' w', w'.ownsRow base e size v' (n + m) (xs ++ news) → w.grownBy w' v.ownBlock → (v' = .slice none 0 0 ↔ v = .slice none 0 0 ∧ m = 0) → K (a.put o.dst v') w') :
    if Region.wanted o (yielded ops a.tmps) = true then Oper.wp P o a w K Q else E := by
  rw [if_pos (by simp [Region.wanted, hgd])]
  exact wp_append_own w s x t ho base e i z size bytes ht hi hz hsize hby hzs hsz v n xs hs hown ad m c news hx hl hnews h1 h63 hbytes hbase h
/-- What reads at an address. -/
theorem SliceOf.at_ {w : World} {b off n c : Nat} {xs : List Int} (h : SliceOf w 1 vI (.slice (some ⟨b, off, none⟩) n c) xs) : Hid (∀ j u, (xs.map (Value.int .i64))[j]? = some u → w.cell? ((Addr.mk b off none).add j) = some u) := by
  rcases Nat.eq_zero_or_pos xs.length with h0 | h0
  · have := List.length_eq_zero_iff.1 h0
    subst this
    intro j u hu
    simp at hu
  · obtain ⟨b', off', c', e, -, hh⟩ := h.src h0
    injection e with e1 e2 e3
    injection e1 with e1
    injection e1 with e1 e4
    subst e1 e4
    exact hh
def CopyP (xs : List Int) (w : World) (e : Ending) (w' : World) : Prop := ∃ g c, e = .returned (.slice (some ⟨g, 0, none⟩) xs.length c) ∧ Own w' w.heap.size 3 1 vI (.slice (some ⟨g, 0, none⟩) xs.length c) xs ∧ Below w.heap.size w w'
theorem Own.some0 {w : World} {base : Nat} {e : TypeId} {v : Value} {xs : List Int} (h : Own w base e 1 vI v xs) (h0 : v ≠ .slice none 0 0) : ∃ g c, v = .slice (some ⟨g, 0, none⟩) xs.length c ∧ base ≤ g ∧ g < w.heap.size ∧ xs.length ≤ c ∧ c ≤ maxLen := by
  rcases h.2 with ⟨h1, -⟩ | ⟨g, cap, cur, hv, hbg, hg, h1, h2, h3, h4⟩
  · exact (h0 h1).elim
  · exact ⟨g, cap, hv, hbg, (Array.getElem?_eq_some_iff.1 hg).1, h1, h2⟩
set_option maxHeartbeats 3200000 in
theorem ints_any (xs : List Int) (b off n c : Nat) (w : World) (h : SliceOf w 1 vI (.slice (some ⟨b, off, none⟩) n c) xs) (hb : b < w.heap.size) (hn : xs.length ≤ 1048576) : Calls Try.prog 10 #[.slice (some ⟨b, off, none⟩) n c] w (CopyP xs w) := by
  obtain rfl : n = xs.length := (h.len).1
  have hc := h.at_
  obtain ⟨i0, hi, hz0, hz1, hz2⟩ := info_parts info_int
  have hE := own_empty (w := w) 3 3 rfl
  have B0 : Below w.heap.size w (w.alloc (.cells #[] 3)) := by go_grown
  clear h
  go_enter Try.func10, Try.ntmps10
  go_wp2_with (at_builtin; refine wpList_append_own _ rfl (.tmp 3) (.tmp 4) 22 rfl w.heap.size 3 i0 (.int .i64 0) 1 8 Try.underlying22 hi hz0 hz1 hz2 rfl (by decide) _ _ _ rfl hE _ xs.length c (xs.map (Value.int .i64)) rfl (by simp) ?c1 ?c2 ?c3 ?c4 ?c5 ?_)
  case c1 =>
    intro j u hu
    have hj := hc.out j u hu
    exact (B0.cell (p := (Addr.mk b off none).add j) (by rw [block_of_add]; exact hb)).trans hj
  case c2 => intro u hu; rw [List.mem_map] at hu; obtain ⟨x, -, rfl⟩ := hu; rfl
  case c3 => rw [List.length_nil]; unfold maxLen; omega
  case c4 => rw [List.length_nil]; omega
  case c5 => simp
  intro v' w1 hown hg hnil
  have hO : Own w1 w.heap.size 3 1 vI v' xs := own_nums hown
  have B1 : Below w.heap.size w w1 := B0.grown hg (by simp) (fun g' hg' => (World.ownsRow.lt hE g' hg').1)
  obtain ⟨g, cp, rfl, hgb, hgl, hc1, hc2⟩ := hO.some0 hnil
  clear hown hg hE hc hi hz0 hz1 hz2 B0 hnil
  go_wp2_with fail
  go_ret
  exact ⟨g, cp, rfl, hO, B1⟩
theorem below_alloc {wt w : World} (h : Below wt.heap.size wt w) (o : Obj) : Below wt.heap.size wt (w.alloc o) := h.alloc h.size o
theorem cell_alloc {w : World} {p : Addr} {v : Value} (h : w.cell? p = some v) (o : Obj) : (w.alloc o).cell? p = some v := cell_keep ((Below.refl _ _).alloc (Nat.le_refl _) o) h
theorem news1 {w : World} {p : Addr} {x : Int} (h : w.cell? p = some (.int .i64 x)) : ∀ j u, ([x].map (Value.int .i64))[j]? = some u → w.cell? (p.add j) = some u := by
  intro j u hu
  match j, hu with
  | 0, hu => simp at hu; subst hu; simpa [Addr.add] using h
theorem cell_new (w : World) (v : Value) (T : TypeId) : (w.alloc (.cells #[v] T)).cell? ⟨w.heap.size, 0, none⟩ = some v := by simp [go_sem]
theorem news2 {wt w : World} {g k : Nat} {D : List Int} (hB : Below wt.heap.size wt w) (hg : g < wt.heap.size) (h : ∀ j u, (D.map (Value.int .i64))[j]? = some u → wt.cell? ⟨g, k + j, none⟩ = some u) : ∀ j u, (D.map (Value.int .i64))[j]? = some u → w.cell? ((Addr.mk g k none).add j) = some u := by
  intro j u hu
  have hd2 := (hB.cell (p := ⟨g, k + j, none⟩) hg).trans (h j u hu)
  unfold Addr.add
  split
  · next e => subst e; simpa using hd2
  · exact hd2
theorem small1 {T : List Int} {k i n : Nat} {x : Int} (h1 : T.length = k) (h2 : k ≤ i) (h3 : i ≤ n) (h4 : n ≤ 1048576) : T.length + [x].length ≤ 2097152 := by simp; omega
theorem small3 {T D : List Int} {k n : Nat} {x : Int} (h1 : T.length = k) (h5 : D.length = 0) (h3 : k ≤ n) (h4 : n ≤ 1048576) : (T ++ [x]).length + D.length ≤ 2097152 := by simp; omega
theorem news0 {w : World} {p : Addr} {D : List Int} (h : D.length = 0) : ∀ j u, (D.map (Value.int .i64))[j]? = some u → w.cell? (p.add j) = some u := by
  intro j u hu
  rw [List.length_eq_zero_iff.1 h] at hu; simp at hu
theorem small2 {T D : List Int} {k i n : Nat} {x : Int} (h1 : T.length = k) (h5 : D.length = i - k) (h2 : k ≤ i) (h3 : i ≤ n) (h4 : n ≤ 1048576) : (T ++ [x]).length + D.length ≤ 2097152 := by simp; omega
theorem ints_at {wt Q : World} {xs : List Int} {b off n c : Nat} (hq : Below wt.heap.size wt Q) (h : SliceOf wt 1 vI (.slice (some ⟨b, off, none⟩) n c) xs) (hb : b < wt.heap.size) (hn : xs.length ≤ 1048576) :
    Calls Try.prog 10 #[.slice (some ⟨b, off, none⟩) n c] Q fun e w' => ∃ g1 c1, e = .returned (.slice (some ⟨g1, 0, none⟩) xs.length c1) ∧ Own w' wt.heap.size 3 1 vI (.slice (some ⟨g1, 0, none⟩) xs.length c1) xs ∧ Below wt.heap.size wt w' ∧ Below Q.heap.size Q w' :=
  (ints_any xs b off n c Q (h.keep hq (Nat.le_refl _)) (by have := hq.size; omega) hn).mono fun _ _ ⟨g, c, he, ho, hb'⟩ => ⟨g, c, he, ho.mono hq.size, hq.trans (hb'.mono hq.size), hb'⟩
/-- append of numbers onto a row of the call's own, as a step of a region. -/
theorem step_append_ints {ops : Array Oper} {o : Oper} {a : Act} {w : World} {K : Act → World → Prop} {Q : Exit → Act → World → Prop} {E : Prop} (hgd : o.guard = none) (s x : Operand)
    (ho : o.op = .call { callee := .builtin .append, args := #[s, x], argTypes := #[22, 22] }) {wt : World} (hq : Below wt.heap.size wt w) (v : Value) (xs : List Int) (hs : a.eval s = v) (hown : Own w wt.heap.size 3 1 vI v xs)
    (ad : Addr) (m c : Nat) (ys : List Int) (hx : a.eval x = .slice (some ad) m c) (hl : ys.length = m) (hnews : ∀ j u, (ys.map (Value.int .i64))[j]? = some u → w.cell? (ad.add j) = some u) (hlen : xs.length + ys.length ≤ 2097152)
    (h : ∀ v' w', Own w' wt.heap.size 3 1 vI v' (xs ++ ys) → Below wt.heap.size wt w' → (v ≠ .slice none 0 0 → v' ≠ .slice none 0 0) → K (a.put o.dst v') w') :
    if Region.wanted o (yielded ops a.tmps) = true then Oper.wp Try.prog o a w K Q else E := by
  obtain ⟨i0, hi, hz0, hz1, hz2⟩ := info_parts info_int
  subst hl
  refine step_append_own hgd s x 22 ho wt.heap.size 3 i0 (.int .i64 0) 1 8 Try.underlying22 hi hz0 hz1 hz2 rfl (by decide) v xs.length (xs.map (Value.int .i64)) hs (by rw [← flatMap_vI]; exact hown) ad ys.length c (ys.map (Value.int .i64)) hx (by simp) hnews ?_ (by unfold maxLen; omega) (by omega) hq.size ?_
  · intro u hu; rw [List.mem_map] at hu; obtain ⟨x', -, rfl⟩ := hu; rfl
  · intro v' w' own2 hg hnil
    rw [← List.map_append] at own2
    exact h v' w' (own_nums own2) (hq.grown hg hq.size (fun g' hg' => (World.ownsRow.lt hown g' hg').1)) (fun hv hv' => hv (hnil.1 hv').1)
theorem own_take {w : World} {base g n c : Nat} {e : TypeId} {xs : List Int} (h : Own w base e 1 vI (.slice (some ⟨g, 0, none⟩) n c) xs) (hl : xs.length = n) (k : Nat) (hk : k ≤ n) : SliceOf w 1 vI (.slice (some ⟨g, 0, none⟩) k c) (xs.take k) := by
  obtain ⟨A', c', e1, h1, h2, h3⟩ := h.slice vI_len (by omega)
  injection e1 with e2 e3 e4
  subst e2 e4
  have hlk : (xs.take k).length = k := by rw [List.length_take]; omega
  refine ⟨_, _, by rw [hlk], by rw [hlk]; omega, h2, fun h0 => ?_⟩
  obtain ⟨b, off, e5, hb, hc⟩ := h3 (by omega)
  refine ⟨b, off, e5, hb, fun j x i u hx hu => hc j x i u ?_ hu⟩
  rw [List.getElem?_take] at hx
  split at hx
  · exact hx
  · cases hx
theorem own_drop {w : World} {base g n c : Nat} {e : TypeId} {xs : List Int} (h : Own w base e 1 vI (.slice (some ⟨g, 0, none⟩) n c) xs) (hl : xs.length = n) (k : Nat) (hk : k ≤ n) : ∀ j u, ((xs.drop k).map (Value.int .i64))[j]? = some u → w.cell? ⟨g, k + j, none⟩ = some u := by
  intro j u hu
  rw [List.getElem?_map, List.getElem?_drop, Option.map_eq_some_iff] at hu
  obtain ⟨x, hx, rfl⟩ := hu
  obtain ⟨hlt, ex⟩ := List.getElem?_eq_some_iff.1 hx
  have := (h.rowAt (k + j) (by simpa using hlt)).1
  rw [this]
  simp [hlt, ex]
theorem insAll_len (xs : List Int) : (insAll xs).length = xs.length := (insAll_falls xs).2.length_eq
theorem insAll_take {xs : List Int} {i : Nat} (hi : i < xs.length) : insAll (xs.take (i + 1)) = insD xs[i] (insAll (xs.take i)) := by
  rw [List.take_succ_eq_append_getElem hi, insAll_snoc]
set_option maxHeartbeats 6400000 in
theorem sortS (xs : List Int) (v : Value) (w : World) (h : SliceOf w 1 vI v xs) (hn : xs.length ≤ 1048576) : Calls Try.prog 4 #[v] w (SortedP xs w) := by
  obtain ⟨A, c, rfl, hl, hm⟩ := h.form
  unfold maxLen at hm
  obtain ⟨i0, hi, hz0, hz1, hz2⟩ := info_parts info_int
  have hE := own_empty (w := w) 3 3 rfl
  have B0 : Below w.heap.size w (w.alloc (.cells #[] 3)) := by go_grown
  go_enter Try.func4, Try.ntmps4
  go_wp2_with fail
  go_loopw [3, 4, 5] (fun ov iv kv wr => ∃ (i g cp : Nat) (L : List Int), i ≤ xs.length ∧ iv = .int .i64 i ∧ ov = .slice (some ⟨g, 0, none⟩) i cp ∧ Own wr w.heap.size 3 1 vI (.slice (some ⟨g, 0, none⟩) i cp) L ∧ Below w.heap.size w wr ∧ Hid (L = insAll (xs.take i))) (fun _ iv _ _ => xs.length - (intOf iv).toNat)
  case atStart => exact ⟨0, _, _, [], Nat.zero_le _, rfl, rfl, hE, B0, by simp [Hid, insAll]⟩
  case round =>
    obtain ⟨i, g, cp, L, hin, rfl, rfl, hO, hB, HL⟩ := hrel
    obtain ⟨wo, rfl⟩ : ∃ wo : World, wo = wr := ⟨_, rfl⟩
    have hLi : L.length = i := by rw [HL.out, insAll_len, List.length_take]; omega
    by_cases hlt : i < xs.length
    · obtain ⟨b, off, rfl, hb, hc⟩ := h.at1 hlt
      obtain ⟨x, hx⟩ : ∃ x, x = xs[i] := ⟨_, rfl⟩
      rw [← hx] at hc
      have HX := Lib.hid hx; clear hx
      have ci := (hB.cell (p := ⟨b, off + i, none⟩) hb).trans hc
      obtain ⟨g', cp', e, hgb, hgl, hc1, hc2⟩ := hO.some0 (by intro e; cases e)
      injection e with e1 e2 e3
      injection e1 with e1
      injection e1 with e1 _
      subst e1 e3
      unfold maxLen at hc2
      have RL := Lib.hid (hO.rowAt)
      have HLi := Lib.hid hLi
      clear hc e2 hLi
      go_wp2_with fail
      go_loopw [5] (fun kv wr => ∃ k : Nat, k ≤ i ∧ kv = .int .i64 k ∧ Below wo.heap.size wo wr ∧ Hid (∀ j, j < k → x ≤ L.getD j 0)) (fun kv _ => i - (intOf kv).toNat)
      case atStart => exact ⟨0, Nat.zero_le _, rfl, Below.refl _ _, fun j hj => by omega⟩
      case round =>
        obtain ⟨k, hki, rfl, hBk, HK⟩ := hrel
        have cik := cell_keep hBk ci
        by_cases hk : k < i
        · have hkL : k < L.length := by have := HLi.out; omega
          obtain ⟨y, hy⟩ : ∃ y, y = L[k] := ⟨_, rfl⟩
          have ck : wr.cell? ⟨g, k, none⟩ = some (.int .i64 y) := by
            have := (RL.out k (by simpa using hkL)).1
            rw [show (L.toArray)[k]! = y by rw [hy]; simp [hkL]] at this
            exact cell_keep hBk this
          have HY := Lib.hid hy; clear hy
          by_cases hxy : x ≤ y
          · go_wp2_with fail
            go_quiet (fail)
            go_wp2_with fail
            go_roundw
            case rel => exact ⟨k + 1, by omega, by go_num, below_drewN hBk _, fun j hj => by
              by_cases e : j = k
              · subst e; simp only [List.getD_eq_getElem?_getD, List.getElem?_eq_getElem hkL, Option.getD_some]; rw [← HY.out]; exact hxy
              · exact HK.out j (by omega)⟩
            case measure => simp [intOf]; omega
          · have hyx : decide (x ≤ y) = false := decide_eq_false hxy
            have hins : insD x L = L.take k ++ x :: L.drop k := insD_at x L k (by omega) HK.out (.inr (by simp only [List.getD_eq_getElem?_getD, List.getElem?_eq_getElem hkL, Option.getD_some]; rw [← HY.out]; omega))
            have HI := Lib.hid hins; clear hins
            go_wp2_with fail
            go_quiet (fail)
            go_wp2_with fail
            obtain ⟨wt, hwt⟩ : ∃ wt, wt = wr.drewN nq := ⟨_, rfl⟩
            rw [← hwt]
            have cit : wt.cell? ⟨b, off + i, none⟩ = some (.int .i64 x) := by rw [hwt]; exact cik
            have Bwt : Below wo.heap.size wo wt := by rw [hwt]; first | exact hBk | exact below_drewN hBk _
            clear hwt
            have hgt : g < wt.heap.size := by have := Bwt.size; omega
            have Ot := hO.keep Bwt (Nat.le_refl _)
            have SK := Lib.hid (Ot.slice vI_len (by omega))
            obtain ⟨T, hT, hTl, hs1⟩ : ∃ T, T = L.take k ∧ T.length = k ∧ SliceOf wt 1 vI (.slice (some ⟨g, 0, none⟩) k cp) T := ⟨_, rfl, by rw [List.length_take]; have := HLi.out; omega, own_take Ot HLi.out k hki⟩
            obtain ⟨D, hD, hDl, hs2⟩ : ∃ D, D = L.drop k ∧ D.length = i - k ∧ ∀ j u, (D.map (Value.int .i64))[j]? = some u → wt.cell? ⟨g, k + j, none⟩ = some u := ⟨_, rfl, by rw [List.length_drop]; have := HLi.out; omega, own_drop Ot HLi.out k hki⟩
            have SL1 := Lib.hid hs1
            have N2 := Lib.hid hs2
            have HT := Lib.hid hT
            have HD := Lib.hid hD
            have HTl := Lib.hid hTl
            have HDl := Lib.hid hDl
            clear hs1 hs2 hT hD hTl hDl
            have kz : (0 : Int) ≤ (k : Int) := by omega
            have kc : (k : Int) ≤ (cp : Int) := by have := HLi.out; omega
            have ki : (k : Int) ≤ (i : Int) := by omega
            have hkc : ¬ cp = k := by have := HLi.out; omega
            clear Ot
            have hcx : ((wt.alloc (.cells #[.int .i64 x] 3)).drew).cell? ⟨wt.heap.size, 0, none⟩ = some (.int .i64 x) := by simp [go_sem]
            go_region_held3 (fun Q => Q.cell? ⟨b, off + i, none⟩ = some (.int .i64 x) ∧ Below wt.heap.size wt Q) (((try go_split_ands); refine ⟨?_, ?_⟩ <;> first | assumption | (apply cell_keep <;> assumption) | exact (Below.refl _ _).drew | exact (below_alloc (Below.refl _ _) _).drew | (refine below_alloc ?_ _; assumption) | (refine cell_alloc ?_ _; assumption) | (apply Below.drew; assumption) | (apply chain' <;> assumption))) ((first
              | (go_at_call 10
                 (try go_split_ands)
                 refine (ints_at (wt := wt) (by assumption) SL1.out hgt (by have := HTl.out; omega)).mono ?_
                 rintro e w' ⟨g1, c1, rfl, O1, hB1, hb1⟩
                 try (have hx2 := cell_keep hb1 hcx))
              | (refine step_append_ints (by rfl) (.tmp 33) (.tmp 38) (by rfl) (wt := wt) ?_ (.slice (some ⟨g1, 0, none⟩) T.length c1) T rfl ?_ _ 1 1 [x] rfl rfl ?_ ?_ ?_
                 ((try go_split_ands); assumption)
                 first | exact O1 | exact O1.alloc _
                 first | exact news1 hx2 | exact news1 (cell_new _ _ _)
                 exact small1 HTl.out hki hin hn
                 intro v2 w2 O2 hB2 nil2
                 replace nil2 := nil2 (by intro e; cases e))
              | (refine step_append_ints (by rfl) (.tmp 39) (.tmp 42) (by rfl) (wt := wt) ?_ v2 (T ++ [x]) rfl O2 _ (i - k) _ D rfl HDl.out ?_ ?_ ?_
                 ((try go_split_ands); assumption)
                 exact news2 hB2 hgt N2.out
                 exact small2 HTl.out HDl.out hki hin hn
                 intro v3 w3 O3 hB3 nil3
                 replace nil3 := nil3 nil2)))
            all_goals
              obtain ⟨L', hL'⟩ : ∃ L', L' = T ++ [x] ++ D := ⟨_, rfl⟩
              rw [← hL'] at O3
              have hl' : L'.length = i + 1 := by rw [hL']; have := HTl.out; have := HDl.out; simp; omega
              have eL : L' = insAll (xs.take (i + 1)) := by rw [insAll_take hlt, ← HX.out, ← HL.out, HI.out, hL', HT.out, HD.out]; simp
              obtain ⟨g3, c3, rfl, hg3, -, -, -⟩ := O3.some0 nil3
              have HL3 := Lib.hid eL
              rw [hl'] at O3 ⊢
              have O4 := O3.mono (base' := w.heap.size) (by have := Bwt.size; have := hB.size; omega)
              have B4 := chain (chain hB Bwt) hB3
              clear hL' hl' eL O3 O1 O2 nil3 nil2 hB1 hB2 hB3
              go_wp2_with fail
              go_roundw
              case rel => exact ⟨i + 1, g3, c3, L', by omega, by go_num, rfl, O4, B4, HL3⟩
              case measure => simp [intOf]; omega
        · obtain rfl : k = i := by omega
          have hins : insD x L = L.take k ++ x :: L.drop k := insD_at x L k (by have := HLi.out; omega) HK.out (.inl HLi.out.symm)
          have HI := Lib.hid hins; clear hins
          by_cases hkc : cp = k
          · have hkc' := hkc.symm
            subst hkc'
            clear hkc
            go_wp2_with fail
            go_quiet (fail)
            go_wp2_with fail
            obtain ⟨wt, hwt⟩ : ∃ wt, wt = wr.drewN nq := ⟨_, rfl⟩
            rw [← hwt]
            have cit : wt.cell? ⟨b, off + k, none⟩ = some (.int .i64 x) := by rw [hwt]; exact cik
            have Bwt : Below wo.heap.size wo wt := by rw [hwt]; first | exact hBk | exact below_drewN hBk _
            clear hwt
            have hgt : g < wt.heap.size := by have := Bwt.size; omega
            have Ot := hO.keep Bwt (Nat.le_refl _)
            have SK := Lib.hid (Ot.slice vI_len (by omega))
            obtain ⟨T, hT, hTl, hs1⟩ : ∃ T, T = L.take k ∧ T.length = k ∧ SliceOf wt 1 vI (.slice (some ⟨g, 0, none⟩) k k) T := ⟨_, rfl, by rw [List.length_take]; have := HLi.out; omega, own_take Ot HLi.out k hki⟩
            obtain ⟨D, hD, hDl, hs2⟩ : ∃ D, D = L.drop k ∧ D.length = 0 ∧ ∀ j u, (D.map (Value.int .i64))[j]? = some u → wt.cell? ⟨g, k + j, none⟩ = some u := ⟨_, rfl, by rw [List.length_drop]; have := HLi.out; omega, own_drop Ot HLi.out k hki⟩
            have SL1 := Lib.hid hs1
            have N2 := Lib.hid hs2
            have HT := Lib.hid hT
            have HD := Lib.hid hD
            have HTl := Lib.hid hTl
            have HDl := Lib.hid hDl
            clear hs1 hs2 hT hD hTl hDl
            have kz : (0 : Int) ≤ (k : Int) := by omega
            have kc : (k : Int) ≤ (k : Int) := by omega
            have ki : (k : Int) ≤ (k : Int) := by omega
            clear Ot
            have hcx : ((wt.alloc (.cells #[.int .i64 x] 3)).drew).cell? ⟨wt.heap.size, 0, none⟩ = some (.int .i64 x) := by simp [go_sem]
            go_region_held3 (fun Q => Q.cell? ⟨b, off + k, none⟩ = some (.int .i64 x) ∧ Below wt.heap.size wt Q) (((try go_split_ands); refine ⟨?_, ?_⟩ <;> first | assumption | (apply cell_keep <;> assumption) | exact (Below.refl _ _).drew | exact (below_alloc (Below.refl _ _) _).drew | (refine below_alloc ?_ _; assumption) | (refine cell_alloc ?_ _; assumption) | (apply Below.drew; assumption) | (apply chain' <;> assumption))) ((first
              | (go_at_call 10
                 (try go_split_ands)
                 refine (ints_at (wt := wt) (by assumption) SL1.out hgt (by have := HTl.out; omega)).mono ?_
                 rintro e w' ⟨g1, c1, rfl, O1, hB1, hb1⟩
                 try (have hx2 := cell_keep hb1 hcx))
              | (refine step_append_ints (by rfl) (.tmp 33) (.tmp 38) (by rfl) (wt := wt) ?_ (.slice (some ⟨g1, 0, none⟩) T.length c1) T rfl ?_ _ 1 1 [x] rfl rfl ?_ ?_ ?_
                 ((try go_split_ands); assumption)
                 first | exact O1 | exact O1.alloc _
                 first | exact news1 hx2 | exact news1 (cell_new _ _ _)
                 exact small1 HTl.out (Nat.le_refl _) hin hn
                 intro v2 w2 O2 hB2 nil2
                 replace nil2 := nil2 (by intro e; cases e))
              | (refine step_append_ints (by rfl) (.tmp 39) (.tmp 42) (by rfl) (wt := wt) ?_ v2 (T ++ [x]) rfl O2 _ 0 _ D rfl HDl.out ?_ ?_ ?_
                 ((try go_split_ands); assumption)
                 exact news0 HDl.out
                 exact small3 HTl.out HDl.out hin hn
                 intro v3 w3 O3 hB3 nil3
                 replace nil3 := nil3 nil2)))
            all_goals
              obtain ⟨L', hL'⟩ : ∃ L', L' = T ++ [x] ++ D := ⟨_, rfl⟩
              rw [← hL'] at O3
              have hl' : L'.length = k + 1 := by rw [hL']; have := HTl.out; have := HDl.out; simp; omega
              have eL : L' = insAll (xs.take (k + 1)) := by rw [insAll_take hlt, ← HX.out, ← HL.out, HI.out, hL', HT.out, HD.out]; simp
              obtain ⟨g3, c3, rfl, hg3, -, -, -⟩ := O3.some0 nil3
              have HL3 := Lib.hid eL
              rw [hl'] at O3 ⊢
              have O4 := O3.mono (base' := w.heap.size) (by have := Bwt.size; have := hB.size; omega)
              have B4 := chain (chain hB Bwt) hB3
              clear hL' hl' eL O3 O1 O2 nil3 nil2 hB1 hB2 hB3
              go_wp2_with fail
              go_roundw
              case rel => exact ⟨k + 1, g3, c3, L', by omega, by go_num, rfl, O4, B4, HL3⟩
              case measure => simp [intOf]; omega
          · skip
            go_wp2_with fail
            go_quiet (fail)
            go_wp2_with fail
            obtain ⟨wt, hwt⟩ : ∃ wt, wt = wr.drewN nq := ⟨_, rfl⟩
            rw [← hwt]
            have cit : wt.cell? ⟨b, off + k, none⟩ = some (.int .i64 x) := by rw [hwt]; exact cik
            have Bwt : Below wo.heap.size wo wt := by rw [hwt]; first | exact hBk | exact below_drewN hBk _
            clear hwt
            have hgt : g < wt.heap.size := by have := Bwt.size; omega
            have Ot := hO.keep Bwt (Nat.le_refl _)
            have SK := Lib.hid (Ot.slice vI_len (by omega))
            obtain ⟨T, hT, hTl, hs1⟩ : ∃ T, T = L.take k ∧ T.length = k ∧ SliceOf wt 1 vI (.slice (some ⟨g, 0, none⟩) k cp) T := ⟨_, rfl, by rw [List.length_take]; have := HLi.out; omega, own_take Ot HLi.out k hki⟩
            obtain ⟨D, hD, hDl, hs2⟩ : ∃ D, D = L.drop k ∧ D.length = 0 ∧ ∀ j u, (D.map (Value.int .i64))[j]? = some u → wt.cell? ⟨g, k + j, none⟩ = some u := ⟨_, rfl, by rw [List.length_drop]; have := HLi.out; omega, own_drop Ot HLi.out k hki⟩
            have SL1 := Lib.hid hs1
            have N2 := Lib.hid hs2
            have HT := Lib.hid hT
            have HD := Lib.hid hD
            have HTl := Lib.hid hTl
            have HDl := Lib.hid hDl
            clear hs1 hs2 hT hD hTl hDl
            have kz : (0 : Int) ≤ (k : Int) := by omega
            have kc : (k : Int) ≤ (cp : Int) := by have := HLi.out; omega
            have ki : (k : Int) ≤ (k : Int) := by omega
            clear Ot
            have hcx : ((wt.alloc (.cells #[.int .i64 x] 3)).drew).cell? ⟨wt.heap.size, 0, none⟩ = some (.int .i64 x) := by simp [go_sem]
            go_region_held3 (fun Q => Q.cell? ⟨b, off + k, none⟩ = some (.int .i64 x) ∧ Below wt.heap.size wt Q) (((try go_split_ands); refine ⟨?_, ?_⟩ <;> first | assumption | (apply cell_keep <;> assumption) | exact (Below.refl _ _).drew | exact (below_alloc (Below.refl _ _) _).drew | (refine below_alloc ?_ _; assumption) | (refine cell_alloc ?_ _; assumption) | (apply Below.drew; assumption) | (apply chain' <;> assumption))) ((first
              | (go_at_call 10
                 (try go_split_ands)
                 refine (ints_at (wt := wt) (by assumption) SL1.out hgt (by have := HTl.out; omega)).mono ?_
                 rintro e w' ⟨g1, c1, rfl, O1, hB1, hb1⟩
                 try (have hx2 := cell_keep hb1 hcx))
              | (refine step_append_ints (by rfl) (.tmp 33) (.tmp 38) (by rfl) (wt := wt) ?_ (.slice (some ⟨g1, 0, none⟩) T.length c1) T rfl ?_ _ 1 1 [x] rfl rfl ?_ ?_ ?_
                 ((try go_split_ands); assumption)
                 first | exact O1 | exact O1.alloc _
                 first | exact news1 hx2 | exact news1 (cell_new _ _ _)
                 exact small1 HTl.out (Nat.le_refl _) hin hn
                 intro v2 w2 O2 hB2 nil2
                 replace nil2 := nil2 (by intro e; cases e))
              | (refine step_append_ints (by rfl) (.tmp 39) (.tmp 42) (by rfl) (wt := wt) ?_ v2 (T ++ [x]) rfl O2 _ 0 _ D rfl HDl.out ?_ ?_ ?_
                 ((try go_split_ands); assumption)
                 exact news0 HDl.out
                 exact small3 HTl.out HDl.out hin hn
                 intro v3 w3 O3 hB3 nil3
                 replace nil3 := nil3 nil2)))
            all_goals
              obtain ⟨L', hL'⟩ : ∃ L', L' = T ++ [x] ++ D := ⟨_, rfl⟩
              rw [← hL'] at O3
              have hl' : L'.length = k + 1 := by rw [hL']; have := HTl.out; have := HDl.out; simp; omega
              have eL : L' = insAll (xs.take (k + 1)) := by rw [insAll_take hlt, ← HX.out, ← HL.out, HI.out, hL', HT.out, HD.out]; simp
              obtain ⟨g3, c3, rfl, hg3, -, -, -⟩ := O3.some0 nil3
              have HL3 := Lib.hid eL
              rw [hl'] at O3 ⊢
              have O4 := O3.mono (base' := w.heap.size) (by have := Bwt.size; have := hB.size; omega)
              have B4 := chain (chain hB Bwt) hB3
              clear hL' hl' eL O3 O1 O2 nil3 nil2 hB1 hB2 hB3
              go_wp2_with fail
              go_roundw
              case rel => exact ⟨k + 1, g3, c3, L', by omega, by go_num, rfl, O4, B4, HL3⟩
              case measure => simp [intOf]; omega
    · obtain rfl : i = xs.length := by omega
      have e1 : L = sortD xs := by rw [HL.out, List.take_length, insAll_eq]
      have sL := hO.slice vI_len (by omega)
      rw [e1] at sL
      have SL := Lib.hid sL
      clear hO e1 sL
      go_wp2_with fail
      go_ret
      exact ⟨_, rfl, SL.out, hB⟩
end Go.Proofs.Ythpgnlmkgllonaa
