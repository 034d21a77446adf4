/- What the reference's draw of whatever network answers. No condition. -/
import Derived.Test.YtdmeinfdldiegaaDrawNet
import Derived.Deep.RegionLaw
namespace Go.Proofs.Ytdmeinfdldiegaa
open Go.RowKit Go.PlainAid
set_option maxRecDepth 100000
set_option linter.unusedVariables false
/-- One field of one leg turned. -/
theorem flat_setL {j : Nat} {v : Value} (f : LegD → LegD) (hf : ∀ y, (f y).vals = y.vals.set j v) (hj : j < 6) : ∀ (ys : List LegD) (k : Nat), (ys.flatMap LegD.vals).set (k * 6 + j) v = (ys.modify k f).flatMap LegD.vals
  | [], k => by simp
  | y :: r, 0 => by
    rw [List.flatMap_cons, Nat.zero_mul, Nat.zero_add, List.set_append_left _ _ (by show j < 6; exact hj), ← hf]
    simp
  | y :: r, k + 1 => by
    rw [List.flatMap_cons, show (k + 1) * 6 + j = 6 + (k * 6 + j) by omega, List.set_append_right _ _ (by show 6 ≤ _; omega), show (6 + (k * 6 + j) - y.vals.length) = k * 6 + j by show 6 + (k * 6 + j) - 6 = _; omega, flat_setL f hf hj r k]
    simp
theorem modify_okL {f : LegD → LegD} {ys : List LegD} {k : Nat} (h : ∀ y ∈ ys, y.ok) (hf : ∀ y : LegD, y.ok → (f y).ok) : ∀ y ∈ ys.modify k f, y.ok := by
  intro y hy
  obtain ⟨i, hi, e⟩ := List.getElem_of_mem hy
  rw [List.getElem_modify] at e
  have hi' : i < ys.length := by simpa using hi
  have hm := h _ (List.getElem_mem hi')
  split at e
  · rw [← e]; exact hf _ hm
  · rw [← e]; exact hm
theorem own_storeL {w : World} {base g n c k j : Nat} {v : Value} {ys : List LegD} (f : LegD → LegD) (hf : ∀ y, (f y).vals = y.vals.set j v) (hj : j < 6) (hO : Own w base 47 6 LegD.vals (.slice (some ⟨g, 0, none⟩) n c) ys) : Own (w.setCell ⟨g, k * 6 + j, none⟩ v) base 47 6 LegD.vals (.slice (some ⟨g, 0, none⟩) n c) (ys.modify k f) := by
  obtain rfl : n = ys.length := by
    rcases hO.2 with ⟨e, -⟩ | ⟨g', cap, cur, hv, -⟩
    · cases e
    · injection hv
  have hO' : w.ownsRow base 47 6 (.slice (some ⟨g, 0, none⟩) ys.length c) ys.length (ys.flatMap LegD.vals) := hO
  have hst := (World.ownsRow.stored hO' (k * 6 + j) v).1
  rw [flat_setL f hf hj] at hst
  unfold Own
  rw [show (ys.modify k f).length = ys.length by simp]
  exact hst
/-- A row in another block. -/
theorem own_farL {α : Type} {w : World} {base size : Nat} {e : TypeId} {vals : α → List Value} {v : Value} {xs : List α} {p : Addr} (h : Own w base e size vals v xs) (hne : ∀ b n c, v = .slice (some ⟨b, 0, none⟩) n c → b ≠ p.block) (u : Value) : Own (w.setCell p u) base e size vals v xs := by
  refine ⟨h.1, ?_⟩
  rcases h.2 with h0 | ⟨g, cap, cur, hv, hbg, hg, r⟩
  · exact .inl h0
  · exact .inr ⟨g, cap, cur, hv, hbg, by rw [Below.heap_setCell _ _ _ _ (hne g _ _ hv)]; exact hg, r⟩
theorem own_grownL {α : Type} {w w' : World} {base size : Nat} {e : TypeId} {vals : α → List Value} {v : Value} {xs : List α} {row : Option Nat} (h : Own w base e size vals v xs) (b : w.grownBy w' row) (hne : ∀ g n c, v = .slice (some ⟨g, 0, none⟩) n c → some g ≠ row) : Own w' base e size vals v xs := by
  refine ⟨h.1, ?_⟩
  rcases h.2 with h0 | ⟨g, cap, cur, hv, hbg, hg, r⟩
  · exact .inl h0
  · exact .inr ⟨g, cap, cur, hv, hbg, by rw [b.block g (Array.getElem?_eq_some_iff.1 hg).1 (hne g _ _ hv)]; exact hg, r⟩
theorem own_awayL {α : Type} {w : World} {base size : Nat} {e : TypeId} {vals : α → List Value} {v : Value} {xs : List α} (h : Own w base e size vals v xs) : ∀ b off n c, v = .slice (some ⟨b, off, none⟩) n c → base ≤ b := fun b off n c e => by subst e; exact own_blockN h
theorem SliceOf.takeL {α : Type} {w : World} {size : Nat} {vals : α → List Value} {A : Option Addr} {m c n : Nat} {xs : List α} (h : SliceOf w size vals (.slice A m c) xs) (hn : n ≤ xs.length) : SliceOf w size vals (.slice A n c) (xs.take n) := by
  obtain ⟨A', c', e1, h1, h2, h3⟩ := h
  injection e1 with e2 e3 e4
  subst e2 e4
  have hl : (xs.take n).length = n := by rw [List.length_take]; omega
  refine ⟨_, _, by rw [hl], by rw [hl]; omega, h2, fun h0 => ?_⟩
  obtain ⟨b, off, e5, hb, hc⟩ := h3 (by omega)
  refine ⟨b, off, e5, hb, fun k x j u hx hu => hc k x j u ?_ hu⟩
  rw [List.getElem?_take] at hx
  split at hx
  · exact hx
  · cases hx
/-- A drawn network, with a slip of the pen. -/
def AnyNetP (C : Nat) (w : World) (e : Ending) (w' : World) : Prop := ∃ (lv ov : Value) (legs : List LegD) (off : List Int) (ch : Int), e = .returned (.agg #[lv, ov, .int .i64 ch]) ∧ SliceOf w' 6 LegD.vals lv legs ∧ (∀ x ∈ legs, x.ok) ∧ 1 ≤ legs.length ∧ legs.length ≤ 21 ∧
  SliceOf w' 1 vI ov off ∧ (∀ x ∈ off, okI x) ∧ off.length ≤ 3 ∧ okI ch ∧ (∀ b off n c, lv = .slice (some ⟨b, off, none⟩) n c → w.heap.size ≤ b) ∧ (∀ b off n c, ov = .slice (some ⟨b, off, none⟩) n c → w.heap.size ≤ b) ∧ Cur C w' ∧ Saves C w w'
theorem slice_setA {α : Type} {w : World} {size : Nat} {vals : α → List Value} {v : Value} {xs : List α} {p : Addr} (h : SliceOf w size vals v xs) (hb : ∀ b off n c, v = .slice (some ⟨b, off, none⟩) n c → b ≠ p.block) (u : Value) : SliceOf (w.setCell p u) size vals v xs := by
  obtain ⟨A', c', rfl, h1, h2, h3⟩ := h
  refine ⟨A', c', rfl, h1, h2, fun hn => ?_⟩
  obtain ⟨b', off', rfl, hlt, hc⟩ := h3 hn
  exact ⟨b', off', rfl, by simpa [World.setCell] using hlt, fun k x j u' hx hu => (World.cell?_of_block (w := w) (Below.heap_setCell _ _ _ _ (hb _ _ _ _ rfl))).trans (hc k x j u' hx hu)⟩
theorem anyNet_end {C : Nat} {w wv : World} {lv ov : Value} {legs : List LegD} {off : List Int} {ch : Int} (hl : SliceOf wv 6 LegD.vals lv legs) (hk : ∀ x ∈ legs, x.ok) (h1 : 1 ≤ legs.length) (h2 : legs.length ≤ 21) (ho : SliceOf wv 1 vI ov off) (ok : ∀ x ∈ off, okI x) (h3 : off.length ≤ 3) (hch : okI ch)
    (a1 : ∀ b off n c, lv = .slice (some ⟨b, off, none⟩) n c → w.heap.size + 1 ≤ b) (a2 : ∀ b off n c, ov = .slice (some ⟨b, off, none⟩) n c → w.heap.size + 1 ≤ b) (hC : Cur C wv) (hS : Saves C w wv) (lt : C < w.heap.size) :
    AnyNetP C w (.returned (.agg #[lv, ov, .int .i64 ch])) (((wv.setCell ⟨w.heap.size, 0, none⟩ lv).setCell ⟨w.heap.size, 1, none⟩ ov).setCell ⟨w.heap.size, 2, none⟩ (.int .i64 ch)) := by
  refine ⟨lv, ov, legs, off, ch, rfl, ?_, hk, h1, h2, ?_, ok, h3, hch, fun b off n c e => by have := a1 b off n c e; omega, fun b off n c e => by have := a2 b off n c e; omega, ?_, ?_⟩
  · exact slice_setA (slice_setA (slice_setA hl (fun b off n c e => by have := a1 b off n c e; simp only; omega) _) (fun b off n c e => by have := a1 b off n c e; simp only; omega) _) (fun b off n c e => by have := a1 b off n c e; simp only; omega) _
  · exact slice_setA (slice_setA (slice_setA ho (fun b off n c e => by have := a2 b off n c e; simp only; omega) _) (fun b off n c e => by have := a2 b off n c e; simp only; omega) _) (fun b off n c e => by have := a2 b off n c e; simp only; omega) _
  · exact ((hC.setB (by simp only; omega) _).setB (by simp only; omega) _).setB (by simp only; omega) _
  · exact ((hS.setNew (by simp only; omega) _).setNew (by simp only; omega) _).setNew (by simp only; omega) _
theorem own_apart {α β : Type} {w : World} {b1 b2 s1 s2 : Nat} {e1 e2 : TypeId} {f1 : α → List Value} {f2 : β → List Value} {u v : Value} {xs : List α} {ys : List β} (hne : e1 ≠ e2) (h1 : Own w b1 e1 s1 f1 u xs) (h2 : Own w b2 e2 s2 f2 v ys) : ∀ b n c b' n' c', u = .slice (some ⟨b, 0, none⟩) n c → v = .slice (some ⟨b', 0, none⟩) n' c' → b ≠ b' := by
  intro b n c b' n' c' eu ev hb
  subst eu ev hb
  rcases h1.2 with ⟨e, -⟩ | ⟨g, cap, cur, hv, -, hg, -⟩
  · cases e
  rcases h2.2 with ⟨e, -⟩ | ⟨g', cap', cur', hv', -, hg', -⟩
  · cases e
  injection hv with e3; injection e3 with e3; injection e3 with e3 e4
  injection hv' with e5; injection e5 with e5; injection e5 with e5 e6
  subst e3 e5
  rw [hg] at hg'
  injection hg' with hg'; injection hg' with _ hg'
  exact hne hg'
theorem own_block_ne {α β : Type} {w : World} {b1 b2 s1 s2 gl n c : Nat} {e1 e2 : TypeId} {f1 : α → List Value} {f2 : β → List Value} {u : Value} {xs : List α} {ys : List β} (hne : e1 ≠ e2) (h1 : Own w b1 e1 s1 f1 u xs) (h2 : Own w b2 e2 s2 f2 (.slice (some ⟨gl, 0, none⟩) n c) ys) : u.ownBlock ≠ some gl := by
  intro e
  rcases h1.2 with ⟨hu, -⟩ | ⟨g, cap, cur, hv, -⟩
  · subst hu; cases e
  · subst hv
    have e' : g = gl := by injection e
    subst e'
    exact own_apart hne h1 h2 _ _ _ _ _ _ rfl rfl rfl
theorem own_box_ne {α : Type} {w : World} {b1 s1 g : Nat} {e1 t : TypeId} {f1 : α → List Value} {u : Value} {xs : List α} {cs : Array Value} (hne : e1 ≠ t) (h1 : Own w b1 e1 s1 f1 u xs) (h2 : Box w g t cs) : ∀ b n c, u = .slice (some ⟨b, 0, none⟩) n c → b ≠ g := by
  intro b n c eu hb
  subst eu hb
  rcases h1.2 with ⟨e, -⟩ | ⟨g', cap, cur, hv, -, hg, -⟩
  · cases e
  injection hv with e3; injection e3 with e3; injection e3 with e3 e4
  subst e3
  unfold Box at h2
  rw [h2] at hg
  injection hg with hg; injection hg with _ hg
  exact hne hg.symm
theorem stepN_append {P : Program} {ops : Array Oper} {o : Oper} {a : Act} {w : World} {K : Act → World → Prop} {Q : Exit → Act → World → Prop} {E : Prop} (hgd : o.guard = none) (s x : Operand) (t : TypeId)
    (ho : o.op = .call { callee := .builtin .append, args := #[s, x], argTypes := #[t, t] })
    (base : Nat) (e : TypeId) (i : TypeInfo) (z : Value) (size bytes : Nat) (ht : P.underlying t = some (.slice e)) (hi : P.info? e = some i) (hz : i.zero = some z)
    (hsize : i.size = size) (hby : i.bytes = bytes) (hzs : z.cells.size = size) (hsz : 0 < size)
    (v : Value) (n : Nat) (xs : List Value) (hs : a.eval s = v) (hown : w.ownsRow base e size v n xs)
    (ad : Addr) (m c : Nat) (news : List Value) (hx : a.eval x = .slice (some ad) m c) (hl : news.length = m * size) (hnews : ∀ j u, news[j]? = some u → w.cell? (ad.add j) = some u) (h1 : ∀ u ∈ news, u.oneCell' = true)
    (h63 : n + m ≤ maxLen) (hbytes : (n + m) * bytes ≤ 140737488355328) (hbase : base ≤ w.heap.size)
    (h : ∀ v' w', w'.ownsRow base e size v' (n + m) (xs ++ news) → w.grownBy w' v.ownBlock → (v' = .slice none 0 0 ↔ v = .slice none 0 0 ∧ m = 0) → K (a.put o.dst v') w') :
    if Region.wanted o (yielded ops a.tmps) = true then Oper.wp P o a w K Q else E := by
  rw [if_pos (by simp [Region.wanted, hgd])]
  exact wp_append_own w s x t ho base e i z size bytes ht hi hz hsize hby hzs hsz v n xs hs hown ad m c news hx hl hnews h1 h63 hbytes hbase h
theorem stepN_int {ops : Array Oper} {o : Oper} {a : Act} {w : World} {K : Act → World → Prop} {Q : Exit → Act → World → Prop} {E : Prop} (hgd : o.guard = none) (s x : Operand)
    (ho : o.op = .call { callee := .builtin .append, args := #[s, x], argTypes := #[23, 23] }) (base : Nat) (v : Value) (xs : List Int) (hs : a.eval s = v) (hown : Own w base 3 1 vI v xs)
    (y : Int) (g1 : Nat) (hx : a.eval x = .slice (some ⟨g1, 0, none⟩) 1 1) (hnews : w.cell? ⟨g1, 0, none⟩ = some (.int .i64 y)) (hlen : xs.length ≤ 1000) (hb : base ≤ w.heap.size)
    (h : ∀ v' w', Own w' base 3 1 vI v' (xs ++ [y]) → w.grownBy w' v.ownBlock → K (a.put o.dst v') w') :
    if Region.wanted o (yielded ops a.tmps) = true then Oper.wp Try.prog o a w K Q else E := by
  obtain ⟨i0, hi, hz0, hz1, hz2⟩ := info_parts info_int
  refine stepN_append hgd s x 23 ho base 3 i0 (.int .i64 0) 1 8 Try.underlying23 hi hz0 hz1 hz2 rfl (by decide) v xs.length (xs.map (Value.int .i64)) hs (by rw [← flatMap_vI]; exact hown) ⟨g1, 0, none⟩ 1 1 [.int .i64 y] hx rfl ?_ ?_ (by unfold maxLen; omega) (by omega) hb ?_
  · intro j u hj
    match j, hj with
    | 0, hj => simp at hj; subst hj; simpa [Addr.add] using hnews
  · intro u hu; simp at hu; subst hu; rfl
  · intro v' w' own2 hg hnil
    refine h v' w' ?_ hg
    have e : (xs ++ [y]).flatMap vI = xs.map (Value.int .i64) ++ [.int .i64 y] := by rw [flatMap_vI]; simp
    unfold Own
    rw [e, List.length_append]
    exact own2
theorem stepN_leg {ops : Array Oper} {o : Oper} {a : Act} {w : World} {K : Act → World → Prop} {Q : Exit → Act → World → Prop} {E : Prop} (hgd : o.guard = none) (s x : Operand)
    (ho : o.op = .call { callee := .builtin .append, args := #[s, x], argTypes := #[29, 29] }) (base : Nat) (v : Value) (xs : List LegD) (hs : a.eval s = v) (hown : Own w base 47 6 LegD.vals v xs)
    (y : LegD) (g1 : Nat) (hx : a.eval x = .slice (some ⟨g1, 0, none⟩) 1 1) (hnews : ∀ j u, y.vals[j]? = some u → w.cell? ⟨g1, j, none⟩ = some u) (hlen : xs.length ≤ 1000) (hb : base ≤ w.heap.size)
    (h : ∀ v' w', Own w' base 47 6 LegD.vals v' (xs ++ [y]) → w.grownBy w' v.ownBlock → K (a.put o.dst v') w') :
    if Region.wanted o (yielded ops a.tmps) = true then Oper.wp Try.prog o a w K Q else E := by
  obtain ⟨i0, hi, hz0, hz1, hz2⟩ := info_parts info_LegD
  refine stepN_append hgd s x 29 ho base 47 i0 (.agg #[.string ⟨#[]⟩, .string ⟨#[]⟩, .int .i64 0, .int .i64 0, .int .i64 0, .int .i64 0]) 6 64 Try.underlying29 hi hz0 hz1 hz2 rfl (by decide) v xs.length (xs.flatMap LegD.vals) hs hown ⟨g1, 0, none⟩ 1 1 y.vals hx rfl ?_ ?_ (by unfold maxLen; omega) (by omega) hb ?_
  · intro j u hj
    have := hnews j u hj
    unfold Addr.add
    split
    · next e => subst e; exact this
    · simpa using this
  · intro u hu; unfold LegD.vals at hu; simp at hu; rcases hu with rfl | rfl | rfl | rfl | rfl | rfl <;> rfl
  · intro v' w' own2 hg hnil
    exact h v' w' (own_leg own2) hg
theorem newsL (w : World) (y : LegD) : ∀ j u, y.vals[j]? = some u → (w.alloc (.cells #[.string y.src, .string y.dst, .int .i64 y.start, .int .i64 y.takes, .int .i64 y.days, .int .i64 y.room] 47)).cell? ⟨w.heap.size, j, none⟩ = some u := by
  intro j u hj
  unfold LegD.vals at hj
  match j, hj with
  | 0, hj => simp at hj; subst hj; simp [go_sem]
  | 1, hj => simp at hj; subst hj; simp [go_sem]
  | 2, hj => simp at hj; subst hj; simp [go_sem]
  | 3, hj => simp at hj; subst hj; simp [go_sem]
  | 4, hj => simp at hj; subst hj; simp [go_sem]
  | 5, hj => simp at hj; subst hj; simp [go_sem]
theorem cell_newN (w : World) (v : Value) (T : TypeId) : (w.alloc (.cells #[v] T)).cell? ⟨w.heap.size, 0, none⟩ = some v := by simp [go_sem]
theorem cell_farN {w : World} {b o b' o' : Nat} {v u : Value} (hne : b ≠ b') (h : w.cell? ⟨b, o, none⟩ = some v) : (w.setCell ⟨b', o', none⟩ u).cell? ⟨b, o, none⟩ = some v := (World.cell?_of_block (w := w) (Below.heap_setCell _ _ _ _ hne)).trans h
theorem cell_offN {w : World} {b o : Nat} {v u : Value} (h : w.cell? ⟨b, o, none⟩ = some v) : (w.setCell ⟨b, o + 1, none⟩ u).cell? ⟨b, o, none⟩ = some v := by rw [show (w.setCell ⟨b, o + 1, none⟩ u).cell? ⟨b, o, none⟩ = w.cell? ⟨b, o, none⟩ from by first | (simp [go_sem]; done) | (simp [go_sem]; omega)]; exact h
def startNums : List Int := [-1, 0, 1439, 1440]
def takesNums : List Int := [0, 1, 4320, 4321]
def daysNums : List Int := [0, 127, 128, -1]
def offNums : List Int := [0, 60, 61, -1]
def chNums : List Int := [-1, 240, 241]
def lenNums : List Int := [20, 21]
theorem nums_ok : ∀ x ∈ startNums ++ takesNums ++ daysNums ++ offNums ++ chNums, okI x := by unfold okI startNums takesNums daysNums offNums chNums; decide
theorem lens_nat {x : Int} (h : x ∈ lenNums) : ∃ m : Nat, 20 ≤ m ∧ m ≤ 21 ∧ x = (m : Int) := by
  unfold lenNums at h; simp at h
  rcases h with rfl | rfl
  · exact ⟨20, by omega, by omega, rfl⟩
  · exact ⟨21, by omega, by omega, rfl⟩
theorem lens_ok : ∀ x ∈ lenNums, x = 20 ∨ x = 21 := by unfold lenNums; decide
set_option maxHeartbeats 12800000 in
theorem anyNet_any (C : Nat) (w : World) (hc : Cur C w) : Calls Try.prog 42 #[.pointer (some ⟨C, 0, none⟩)] w (AnyNetP C w) := by
  have lt := hc.lt
  obtain ⟨i0, hi, hz0, hz1, hz2⟩ := info_parts info_LegD
  go_enter Try.func42, Try.ntmps42
  go_wp2_with fail
  obtain ⟨W, hW⟩ : ∃ W, W = w.alloc (.cells #[.slice none 0 0, .slice none 0 0, .int .i64 0] 31) := ⟨_, rfl⟩
  rw [← hW]
  have P : Box W w.heap.size 31 #[.slice none 0 0, .slice none 0 0, .int .i64 0] := by rw [hW]; exact Box.new _ _ _
  have bW : Below w.heap.size w W := by rw [hW]; go_grown
  have zW : W.heap.size = w.heap.size + 1 := by rw [hW]; simp
  clear hW
  have S0 : Saves C w W := Saves.of_below bW
  refine (net_any C _ (hc.keep bW)).mono ?_
  rintro e w1 ⟨lv, ov, legs, off, ch, rfl, hO, hL, n1, n12, hF, okF, lF, hch, hap, c1, s1⟩
  replace P := P.saves s1 (by omega)
  have S1 := S0.trans s1
  rw [zW] at hO hF
  have zz1 := s1.size
  clear S0 s1 bW
  obtain ⟨A, cl, rfl, hl1, hl2⟩ := hO.form
  obtain ⟨Ao, co, rfl, ho1, ho2⟩ := hF.form
  unfold maxLen at ho2
  unfold maxLen at hl2
  obtain ⟨gl, rfl⟩ : ∃ gl, A = some ⟨gl, 0, none⟩ := by
    rcases hO.2 with ⟨e, h⟩ | ⟨g, cap, cur, hv, -⟩
    · omega
    · injection hv with h1; exact ⟨g, h1⟩
  go_wp2_with fail
  obtain ⟨V, hV⟩ : ∃ V, V = w1.alloc (.cells #[.slice (some ⟨gl, 0, none⟩) legs.length cl, .slice Ao off.length co, .int .i64 ch] 31) := ⟨_, rfl⟩
  rw [← hV]
  obtain ⟨g, hg⟩ : ∃ g, g = w1.heap.size := ⟨_, rfl⟩
  rw [← hg]
  have Q : Box V g 31 #[.slice (some ⟨gl, 0, none⟩) legs.length cl, .slice Ao off.length co, .int .i64 ch] := by rw [hV, hg]; exact Box.new _ _ _
  have bV : Below w1.heap.size w1 V := by rw [hV]; go_grown
  have lP1 := P.lt
  have gP : w.heap.size < g := by omega
  have gC : C < g := by omega
  have glb := own_blockN hO
  have glg : gl < g := by have := (World.ownsRow.lt hO gl rfl).2; omega
  have hFg : (Value.slice Ao off.length co).ownBlock ≠ some g := fun e => by have := (World.ownsRow.lt hF g e).2; omega
  have hFl : (Value.slice Ao off.length co).ownBlock ≠ some gl := own_block_ne (by decide) hF hO
  have ovg : ∀ b, Ao = some ⟨b, 0, none⟩ → b < g := fun b e => by subst e; have := (World.ownsRow.lt hF b rfl).2; omega
  replace P := P.keep bV
  have SV := S1.trans (Saves.of_below bV)
  have cV := c1.keep bV
  have OV := hO.keep bV (Nat.le_refl _)
  have FV := hF.keep bV (Nat.le_refl _)
  have q0 : V.cell? ⟨g, 0, none⟩ = some (.slice (some ⟨gl, 0, none⟩) legs.length cl) := Q.cell 0
  clear hV bV hg lP1 c1 S1 hO hF hap
  go_wp2_with fail
  refine (belowN_at (w0 := w) legs.length (by omega) (by omega) cV SV).mono ?_
  rintro e w2 ⟨k, rfl, hk, c2, S2, s2⟩
  replace P := P.saves s2 (by omega)
  replace Q := Q.saves s2 (by omega)
  have O2 := OV.savedN (by omega) s2
  have F2 := FV.savedN (by omega) s2
  clear cV SV OV FV s2 q0
  go_wp2_with fail
  refine (belowN_at (w0 := w) 10 (by omega) (by omega) c2 S2).mono ?_
  rintro e w3 ⟨j, rfl, hj, c3, S3, s3⟩
  replace P := P.saves s3 (by omega)
  replace Q := Q.saves s3 (by omega)
  have O3 := O2.savedN (by omega) s3
  have F3 := F2.savedN (by omega) s3
  clear c2 S2 O2 F2 s3
  have k0 : (0 : Int) ≤ (k : Int) := by omega
  have k1 : (k : Int) < (legs.length : Int) := by omega
  have hLk : ∀ x ∈ legs, x.ok := fun x hx => (hL x hx).ok
  have q0 : w3.cell? ⟨g, 0, none⟩ = some (.slice (some ⟨gl, 0, none⟩) legs.length cl) := Q.cell 0
  have q1 : w3.cell? ⟨g, 1, none⟩ = some (.slice Ao off.length co) := Q.cell 1
  have q2 : w3.cell? ⟨g, 2, none⟩ = some (.int .i64 ch) := Q.cell 2
  have qf : ∀ i, w3.frozen? ⟨g, i, none⟩ = false := fun i => Q.frozen i
  rcases (show j = 0 ∨ j = 1 ∨ j = 2 ∨ j = 3 ∨ j = 4 ∨ j = 5 ∨ j = 6 ∨ j = 7 ∨ j = 8 ∨ j = 9 by omega) with rfl | rfl | rfl | rfl | rfl | rfl | rfl | rfl | rfl | rfl
  · skip
    obtain ⟨b_, off_, y, eA, hb_, hy, hcl⟩ := (O3.slice Leg_len (by omega)).cells (k := k) hk
    injection eA with eA; injection eA with e1 e2; subst e1 e2
    have d0 : w3.cell? ⟨gl, k * 6, none⟩ = some (.string y.src) := by simpa using hcl 0 _ rfl
    have d1 : w3.cell? ⟨gl, k * 6 + 1, none⟩ = some (.string y.dst) := by simpa using hcl 1 _ rfl
    have d2 : w3.cell? ⟨gl, k * 6 + 2, none⟩ = some (.int .i64 y.start) := by simpa using hcl 2 _ rfl
    have d3 : w3.cell? ⟨gl, k * 6 + 3, none⟩ = some (.int .i64 y.takes) := by simpa using hcl 3 _ rfl
    have d4 : w3.cell? ⟨gl, k * 6 + 4, none⟩ = some (.int .i64 y.days) := by simpa using hcl 4 _ rfl
    have d5 : w3.cell? ⟨gl, k * 6 + 5, none⟩ = some (.int .i64 y.room) := by simpa using hcl 5 _ rfl
    have df : ∀ i, w3.frozen? ⟨gl, i, none⟩ = false := fun i => World.ownsRow.frozenAt (show w3.ownsRow (w.heap.size + 1) 47 6 (.slice (some ⟨gl, 0, none⟩) legs.length cl) legs.length (legs.flatMap LegD.vals) from O3) i
    have lgl : gl < w3.heap.size := hb_
    have hyk : y.ok := hLk y (mem_of hy.out)
    clear hcl hy hb_
    have nPg : ¬ w.heap.size = g := by omega
    have ngP : ¬ g = w.heap.size := by omega
    have nlg : ¬ gl = g := by omega
    have ngl : ¬ g = gl := by omega
    have nlP : ¬ gl = w.heap.size := by omega
    have nPl : ¬ w.heap.size = gl := by omega
    have nlC : gl ≠ C := by omega
    have ngC : g ≠ C := by omega
    have lgg := Q.lt
    have hS := lit_slice (f := Value.int .i64) (vals := vI) (fun _ => rfl) startNums 3 w3 #[.int .i64 (-1), .int .i64 0, .int .i64 1439, .int .i64 1440] rfl (by decide)
    have bS : Below w3.heap.size w3 (w3.alloc (.cells #[.int .i64 (-1), .int .i64 0, .int .i64 1439, .int .i64 1440] 3)) := by go_grown
    have cS := curN_drew (c3.keep bS)
    have q0b := cell_keep bS q0; have q1b := cell_keep bS q1; have q2b := cell_keep bS q2; have dkb := cell_keep bS d2
    have dfb : (w3.alloc (.cells #[.int .i64 (-1), .int .i64 0, .int .i64 1439, .int .i64 1440] 3)).frozen? ⟨gl, k * 6 + 2, none⟩ = false := (bS.frozen (p := ⟨gl, k * 6 + 2, none⟩) lgl).trans (df _)
    have lgb : gl < (w3.alloc (.cells #[.int .i64 (-1), .int .i64 0, .int .i64 1439, .int .i64 1440] 3)).heap.size := Nat.lt_of_lt_of_le lgl bS.size
    have PB := P.keep bS
    have HO3 := Lib.hid (O3.keep bS (Nat.le_refl _)); have HF3 := Lib.hid (F3.keep bS (Nat.le_refl _)); have HS3 := Lib.hid (S3.trans (Saves.of_below bS))
    clear S3 O3 F3 P
    go_wp2_with fail
    go_region_with (go_at_call 44; refine (int_any C startNums _ _ cS (fun x hx => nums_ok x (by unfold startNums at hx; simp [startNums, takesNums, daysNums, offNums, chNums] at hx ⊢; omega)) (by decide) (slice_drew hS) (fun b off n c hv => by have := c3.lt; injection hv with e1 e2 e3; injection e1 with e1; injection e1 with e1 e2; omega)).mono ?_; rintro e w4 ⟨nn, rfl, hm, c4, s4⟩; have q0c := Saves.at' s4 q0b ngC; have q1c := Saves.at' s4 q1b ngC; have q2c := Saves.at' s4 q2b ngC; have dkc := Saves.at' s4 dkb nlC; have dfc := (s4.frozen (p := ⟨gl, k * 6 + 2, none⟩) lgb nlC).trans dfb)
    all_goals
      have hnn : okI nn := (fun x hx => nums_ok x (by unfold startNums at hx; simp [startNums, takesNums, daysNums, offNums, chNums] at hx ⊢; omega)) nn hm
      have P4 : Box w4 w.heap.size 31 #[.slice none 0 0, .slice none 0 0, .int .i64 0] := Box.saves (PB.drew) s4 (by omega)
      have O4 : Own w4 (w.heap.size + 1) 47 6 LegD.vals (.slice (some ⟨gl, 0, none⟩) legs.length cl) legs := Own.savedN (show Own (w3.alloc (.cells #[.int .i64 (-1), .int .i64 0, .int .i64 1439, .int .i64 1440] 3)).drew (w.heap.size + 1) 47 6 LegD.vals (.slice (some ⟨gl, 0, none⟩) legs.length cl) legs from HO3.out) (by omega) s4
      have F4 : Own w4 (w.heap.size + 1) 3 1 vI (.slice Ao off.length co) off := Own.savedN (show Own (w3.alloc (.cells #[.int .i64 (-1), .int .i64 0, .int .i64 1439, .int .i64 1440] 3)).drew (w.heap.size + 1) 3 1 vI (.slice Ao off.length co) off from HF3.out) (by omega) s4
      have ap := own_apart (by decide) F4 O4
      have F5 := own_farL (p := ⟨gl, k * 6 + 2, none⟩) F4 (fun b n c e => ap b n c gl _ _ e rfl) (.int .i64 nn)
      have O5 := own_storeL (k := k) (j := 2) (v := .int .i64 nn) (fun y => { y with start := nn }) (fun _ => rfl) (by omega) O4
      have c5 := c4.setB (p := ⟨gl, k * 6 + 2, none⟩) (by simp only; omega) (.int .i64 nn)
      have S5 := (HS3.out.drew.trans s4).setNew (p := ⟨gl, k * 6 + 2, none⟩) (by simp only; omega) (.int .i64 nn)
      have HE := Lib.hid (anyNet_end (O5.slice Leg_len (by omega)) (modify_okL hLk (fun y h => ⟨h.1, h.2.1, hnn, h.2.2.2⟩)) (by simpa using n1) (by simp; omega) (F5.slice vI_len (by omega)) (fun x hx => by have := okF x hx; unfold okI; omega) (by omega) (show okI ch by unfold okI; omega) (own_awayL O5) (own_awayL F5) c5 S5 lt)
      have p0 : w4.cell? ⟨w.heap.size, 0, none⟩ = some (.slice none 0 0) := P4.cell 0
      have p1 : w4.cell? ⟨w.heap.size, 1, none⟩ = some (.slice none 0 0) := P4.cell 1
      have p2 : w4.cell? ⟨w.heap.size, 2, none⟩ = some (.int .i64 0) := P4.cell 2
      have pf : ∀ j, w4.frozen? ⟨w.heap.size, j, none⟩ = false := fun j => P4.frozen j
      clear c4 s4 O4 F4 ap F5 O5 c5 S5 q0b q1b q2b dkb dfb lgb hS bS hm
      go_wp2_with fail
      refine bodyPost_ret (v := .agg #[.slice (some ⟨gl, 0, none⟩) legs.length cl, .slice Ao off.length co, .int .i64 ch]) (by simp [results, Try.results42, go_sem, p0, p1, p2]) rfl ?_
      exact HE.out
  · skip
    obtain ⟨b_, off_, y, eA, hb_, hy, hcl⟩ := (O3.slice Leg_len (by omega)).cells (k := k) hk
    injection eA with eA; injection eA with e1 e2; subst e1 e2
    have d0 : w3.cell? ⟨gl, k * 6, none⟩ = some (.string y.src) := by simpa using hcl 0 _ rfl
    have d1 : w3.cell? ⟨gl, k * 6 + 1, none⟩ = some (.string y.dst) := by simpa using hcl 1 _ rfl
    have d2 : w3.cell? ⟨gl, k * 6 + 2, none⟩ = some (.int .i64 y.start) := by simpa using hcl 2 _ rfl
    have d3 : w3.cell? ⟨gl, k * 6 + 3, none⟩ = some (.int .i64 y.takes) := by simpa using hcl 3 _ rfl
    have d4 : w3.cell? ⟨gl, k * 6 + 4, none⟩ = some (.int .i64 y.days) := by simpa using hcl 4 _ rfl
    have d5 : w3.cell? ⟨gl, k * 6 + 5, none⟩ = some (.int .i64 y.room) := by simpa using hcl 5 _ rfl
    have df : ∀ i, w3.frozen? ⟨gl, i, none⟩ = false := fun i => World.ownsRow.frozenAt (show w3.ownsRow (w.heap.size + 1) 47 6 (.slice (some ⟨gl, 0, none⟩) legs.length cl) legs.length (legs.flatMap LegD.vals) from O3) i
    have lgl : gl < w3.heap.size := hb_
    have hyk : y.ok := hLk y (mem_of hy.out)
    clear hcl hy hb_
    have nPg : ¬ w.heap.size = g := by omega
    have ngP : ¬ g = w.heap.size := by omega
    have nlg : ¬ gl = g := by omega
    have ngl : ¬ g = gl := by omega
    have nlP : ¬ gl = w.heap.size := by omega
    have nPl : ¬ w.heap.size = gl := by omega
    have nlC : gl ≠ C := by omega
    have ngC : g ≠ C := by omega
    have lgg := Q.lt
    have hS := lit_slice (f := Value.int .i64) (vals := vI) (fun _ => rfl) takesNums 3 w3 #[.int .i64 0, .int .i64 1, .int .i64 4320, .int .i64 4321] rfl (by decide)
    have bS : Below w3.heap.size w3 (w3.alloc (.cells #[.int .i64 0, .int .i64 1, .int .i64 4320, .int .i64 4321] 3)) := by go_grown
    have cS := curN_drew (c3.keep bS)
    have q0b := cell_keep bS q0; have q1b := cell_keep bS q1; have q2b := cell_keep bS q2; have dkb := cell_keep bS d3
    have dfb : (w3.alloc (.cells #[.int .i64 0, .int .i64 1, .int .i64 4320, .int .i64 4321] 3)).frozen? ⟨gl, k * 6 + 3, none⟩ = false := (bS.frozen (p := ⟨gl, k * 6 + 3, none⟩) lgl).trans (df _)
    have lgb : gl < (w3.alloc (.cells #[.int .i64 0, .int .i64 1, .int .i64 4320, .int .i64 4321] 3)).heap.size := Nat.lt_of_lt_of_le lgl bS.size
    have PB := P.keep bS
    have HO3 := Lib.hid (O3.keep bS (Nat.le_refl _)); have HF3 := Lib.hid (F3.keep bS (Nat.le_refl _)); have HS3 := Lib.hid (S3.trans (Saves.of_below bS))
    clear S3 O3 F3 P
    go_wp2_with fail
    go_region_with (go_at_call 44; refine (int_any C takesNums _ _ cS (fun x hx => nums_ok x (by unfold takesNums at hx; simp [startNums, takesNums, daysNums, offNums, chNums] at hx ⊢; omega)) (by decide) (slice_drew hS) (fun b off n c hv => by have := c3.lt; injection hv with e1 e2 e3; injection e1 with e1; injection e1 with e1 e2; omega)).mono ?_; rintro e w4 ⟨nn, rfl, hm, c4, s4⟩; have q0c := Saves.at' s4 q0b ngC; have q1c := Saves.at' s4 q1b ngC; have q2c := Saves.at' s4 q2b ngC; have dkc := Saves.at' s4 dkb nlC; have dfc := (s4.frozen (p := ⟨gl, k * 6 + 3, none⟩) lgb nlC).trans dfb)
    all_goals
      have hnn : okI nn := (fun x hx => nums_ok x (by unfold takesNums at hx; simp [startNums, takesNums, daysNums, offNums, chNums] at hx ⊢; omega)) nn hm
      have P4 : Box w4 w.heap.size 31 #[.slice none 0 0, .slice none 0 0, .int .i64 0] := Box.saves (PB.drew) s4 (by omega)
      have O4 : Own w4 (w.heap.size + 1) 47 6 LegD.vals (.slice (some ⟨gl, 0, none⟩) legs.length cl) legs := Own.savedN (show Own (w3.alloc (.cells #[.int .i64 0, .int .i64 1, .int .i64 4320, .int .i64 4321] 3)).drew (w.heap.size + 1) 47 6 LegD.vals (.slice (some ⟨gl, 0, none⟩) legs.length cl) legs from HO3.out) (by omega) s4
      have F4 : Own w4 (w.heap.size + 1) 3 1 vI (.slice Ao off.length co) off := Own.savedN (show Own (w3.alloc (.cells #[.int .i64 0, .int .i64 1, .int .i64 4320, .int .i64 4321] 3)).drew (w.heap.size + 1) 3 1 vI (.slice Ao off.length co) off from HF3.out) (by omega) s4
      have ap := own_apart (by decide) F4 O4
      have F5 := own_farL (p := ⟨gl, k * 6 + 3, none⟩) F4 (fun b n c e => ap b n c gl _ _ e rfl) (.int .i64 nn)
      have O5 := own_storeL (k := k) (j := 3) (v := .int .i64 nn) (fun y => { y with takes := nn }) (fun _ => rfl) (by omega) O4
      have c5 := c4.setB (p := ⟨gl, k * 6 + 3, none⟩) (by simp only; omega) (.int .i64 nn)
      have S5 := (HS3.out.drew.trans s4).setNew (p := ⟨gl, k * 6 + 3, none⟩) (by simp only; omega) (.int .i64 nn)
      have HE := Lib.hid (anyNet_end (O5.slice Leg_len (by omega)) (modify_okL hLk (fun y h => ⟨h.1, h.2.1, h.2.2.1, hnn, h.2.2.2.2⟩)) (by simpa using n1) (by simp; omega) (F5.slice vI_len (by omega)) (fun x hx => by have := okF x hx; unfold okI; omega) (by omega) (show okI ch by unfold okI; omega) (own_awayL O5) (own_awayL F5) c5 S5 lt)
      have p0 : w4.cell? ⟨w.heap.size, 0, none⟩ = some (.slice none 0 0) := P4.cell 0
      have p1 : w4.cell? ⟨w.heap.size, 1, none⟩ = some (.slice none 0 0) := P4.cell 1
      have p2 : w4.cell? ⟨w.heap.size, 2, none⟩ = some (.int .i64 0) := P4.cell 2
      have pf : ∀ j, w4.frozen? ⟨w.heap.size, j, none⟩ = false := fun j => P4.frozen j
      clear c4 s4 O4 F4 ap F5 O5 c5 S5 q0b q1b q2b dkb dfb lgb hS bS hm
      go_wp2_with fail
      refine bodyPost_ret (v := .agg #[.slice (some ⟨gl, 0, none⟩) legs.length cl, .slice Ao off.length co, .int .i64 ch]) (by simp [results, Try.results42, go_sem, p0, p1, p2]) rfl ?_
      exact HE.out
  · skip
    obtain ⟨b_, off_, y, eA, hb_, hy, hcl⟩ := (O3.slice Leg_len (by omega)).cells (k := k) hk
    injection eA with eA; injection eA with e1 e2; subst e1 e2
    have d0 : w3.cell? ⟨gl, k * 6, none⟩ = some (.string y.src) := by simpa using hcl 0 _ rfl
    have d1 : w3.cell? ⟨gl, k * 6 + 1, none⟩ = some (.string y.dst) := by simpa using hcl 1 _ rfl
    have d2 : w3.cell? ⟨gl, k * 6 + 2, none⟩ = some (.int .i64 y.start) := by simpa using hcl 2 _ rfl
    have d3 : w3.cell? ⟨gl, k * 6 + 3, none⟩ = some (.int .i64 y.takes) := by simpa using hcl 3 _ rfl
    have d4 : w3.cell? ⟨gl, k * 6 + 4, none⟩ = some (.int .i64 y.days) := by simpa using hcl 4 _ rfl
    have d5 : w3.cell? ⟨gl, k * 6 + 5, none⟩ = some (.int .i64 y.room) := by simpa using hcl 5 _ rfl
    have df : ∀ i, w3.frozen? ⟨gl, i, none⟩ = false := fun i => World.ownsRow.frozenAt (show w3.ownsRow (w.heap.size + 1) 47 6 (.slice (some ⟨gl, 0, none⟩) legs.length cl) legs.length (legs.flatMap LegD.vals) from O3) i
    have lgl : gl < w3.heap.size := hb_
    have hyk : y.ok := hLk y (mem_of hy.out)
    clear hcl hy hb_
    have nPg : ¬ w.heap.size = g := by omega
    have ngP : ¬ g = w.heap.size := by omega
    have nlg : ¬ gl = g := by omega
    have ngl : ¬ g = gl := by omega
    have nlP : ¬ gl = w.heap.size := by omega
    have nPl : ¬ w.heap.size = gl := by omega
    have nlC : gl ≠ C := by omega
    have ngC : g ≠ C := by omega
    have lgg := Q.lt
    have hS := lit_slice (f := Value.int .i64) (vals := vI) (fun _ => rfl) daysNums 3 w3 #[.int .i64 0, .int .i64 127, .int .i64 128, .int .i64 (-1)] rfl (by decide)
    have bS : Below w3.heap.size w3 (w3.alloc (.cells #[.int .i64 0, .int .i64 127, .int .i64 128, .int .i64 (-1)] 3)) := by go_grown
    have cS := curN_drew (c3.keep bS)
    have q0b := cell_keep bS q0; have q1b := cell_keep bS q1; have q2b := cell_keep bS q2; have dkb := cell_keep bS d4
    have dfb : (w3.alloc (.cells #[.int .i64 0, .int .i64 127, .int .i64 128, .int .i64 (-1)] 3)).frozen? ⟨gl, k * 6 + 4, none⟩ = false := (bS.frozen (p := ⟨gl, k * 6 + 4, none⟩) lgl).trans (df _)
    have lgb : gl < (w3.alloc (.cells #[.int .i64 0, .int .i64 127, .int .i64 128, .int .i64 (-1)] 3)).heap.size := Nat.lt_of_lt_of_le lgl bS.size
    have PB := P.keep bS
    have HO3 := Lib.hid (O3.keep bS (Nat.le_refl _)); have HF3 := Lib.hid (F3.keep bS (Nat.le_refl _)); have HS3 := Lib.hid (S3.trans (Saves.of_below bS))
    clear S3 O3 F3 P
    go_wp2_with fail
    go_region_with (go_at_call 44; refine (int_any C daysNums _ _ cS (fun x hx => nums_ok x (by unfold daysNums at hx; simp [startNums, takesNums, daysNums, offNums, chNums] at hx ⊢; omega)) (by decide) (slice_drew hS) (fun b off n c hv => by have := c3.lt; injection hv with e1 e2 e3; injection e1 with e1; injection e1 with e1 e2; omega)).mono ?_; rintro e w4 ⟨nn, rfl, hm, c4, s4⟩; have q0c := Saves.at' s4 q0b ngC; have q1c := Saves.at' s4 q1b ngC; have q2c := Saves.at' s4 q2b ngC; have dkc := Saves.at' s4 dkb nlC; have dfc := (s4.frozen (p := ⟨gl, k * 6 + 4, none⟩) lgb nlC).trans dfb)
    all_goals
      have hnn : okI nn := (fun x hx => nums_ok x (by unfold daysNums at hx; simp [startNums, takesNums, daysNums, offNums, chNums] at hx ⊢; omega)) nn hm
      have P4 : Box w4 w.heap.size 31 #[.slice none 0 0, .slice none 0 0, .int .i64 0] := Box.saves (PB.drew) s4 (by omega)
      have O4 : Own w4 (w.heap.size + 1) 47 6 LegD.vals (.slice (some ⟨gl, 0, none⟩) legs.length cl) legs := Own.savedN (show Own (w3.alloc (.cells #[.int .i64 0, .int .i64 127, .int .i64 128, .int .i64 (-1)] 3)).drew (w.heap.size + 1) 47 6 LegD.vals (.slice (some ⟨gl, 0, none⟩) legs.length cl) legs from HO3.out) (by omega) s4
      have F4 : Own w4 (w.heap.size + 1) 3 1 vI (.slice Ao off.length co) off := Own.savedN (show Own (w3.alloc (.cells #[.int .i64 0, .int .i64 127, .int .i64 128, .int .i64 (-1)] 3)).drew (w.heap.size + 1) 3 1 vI (.slice Ao off.length co) off from HF3.out) (by omega) s4
      have ap := own_apart (by decide) F4 O4
      have F5 := own_farL (p := ⟨gl, k * 6 + 4, none⟩) F4 (fun b n c e => ap b n c gl _ _ e rfl) (.int .i64 nn)
      have O5 := own_storeL (k := k) (j := 4) (v := .int .i64 nn) (fun y => { y with days := nn }) (fun _ => rfl) (by omega) O4
      have c5 := c4.setB (p := ⟨gl, k * 6 + 4, none⟩) (by simp only; omega) (.int .i64 nn)
      have S5 := (HS3.out.drew.trans s4).setNew (p := ⟨gl, k * 6 + 4, none⟩) (by simp only; omega) (.int .i64 nn)
      have HE := Lib.hid (anyNet_end (O5.slice Leg_len (by omega)) (modify_okL hLk (fun y h => ⟨h.1, h.2.1, h.2.2.1, h.2.2.2.1, hnn, h.2.2.2.2.2⟩)) (by simpa using n1) (by simp; omega) (F5.slice vI_len (by omega)) (fun x hx => by have := okF x hx; unfold okI; omega) (by omega) (show okI ch by unfold okI; omega) (own_awayL O5) (own_awayL F5) c5 S5 lt)
      have p0 : w4.cell? ⟨w.heap.size, 0, none⟩ = some (.slice none 0 0) := P4.cell 0
      have p1 : w4.cell? ⟨w.heap.size, 1, none⟩ = some (.slice none 0 0) := P4.cell 1
      have p2 : w4.cell? ⟨w.heap.size, 2, none⟩ = some (.int .i64 0) := P4.cell 2
      have pf : ∀ j, w4.frozen? ⟨w.heap.size, j, none⟩ = false := fun j => P4.frozen j
      clear c4 s4 O4 F4 ap F5 O5 c5 S5 q0b q1b q2b dkb dfb lgb hS bS hm
      go_wp2_with fail
      refine bodyPost_ret (v := .agg #[.slice (some ⟨gl, 0, none⟩) legs.length cl, .slice Ao off.length co, .int .i64 ch]) (by simp [results, Try.results42, go_sem, p0, p1, p2]) rfl ?_
      exact HE.out
  · skip
    have nPg : ¬ w.heap.size = g := by omega
    have ngP : ¬ g = w.heap.size := by omega
    have nlg : ¬ gl = g := by omega
    have ngl : ¬ g = gl := by omega
    have nlP : ¬ gl = w.heap.size := by omega
    have nPl : ¬ w.heap.size = gl := by omega
    have nlC : gl ≠ C := by omega
    have ngC : g ≠ C := by omega
    have lgg := Q.lt
    have hS := lit_slice (f := Value.int .i64) (vals := vI) (fun _ => rfl) offNums 3 w3 #[.int .i64 0, .int .i64 60, .int .i64 61, .int .i64 (-1)] rfl (by decide)
    have bS : Below w3.heap.size w3 (w3.alloc (.cells #[.int .i64 0, .int .i64 60, .int .i64 61, .int .i64 (-1)] 3)) := by go_grown
    have cS := curN_drew (c3.keep bS)
    have q0b := cell_keep bS q0; have q1b := cell_keep bS q1; have q2b := cell_keep bS q2
    have QB := Q.keep bS; have PB := P.keep bS
    have HO3 := Lib.hid (O3.keep bS (Nat.le_refl _)); have HF3 := Lib.hid (F3.keep bS (Nat.le_refl _)); have HS3 := Lib.hid (S3.trans (Saves.of_below bS))
    clear S3 O3 F3 P
    go_wp2_with fail
    go_region_law (first | (go_wp2_with fail; refine (int_any C offNums _ _ cS (fun x hx => nums_ok x (by unfold offNums at hx; simp [startNums, takesNums, daysNums, offNums, chNums] at hx ⊢; omega)) (by decide) (slice_drew hS) (fun b off n c hv => by have := c3.lt; injection hv with e1 e2 e3; injection e1 with e1; injection e1 with e1 e2; omega)).mono ?_; rintro e w4 ⟨nn, rfl, hm, c4, s4⟩; have q0c := Saves.at' s4 q0b ngC; have q1c := Saves.at' s4 q1b ngC; have q2c := Saves.at' s4 q2b ngC; have F4 : Own w4 (w.heap.size + 1) 3 1 vI (.slice Ao off.length co) off := Own.savedN (show Own (w3.alloc (.cells #[.int .i64 0, .int .i64 60, .int .i64 61, .int .i64 (-1)] 3)).drew (w.heap.size + 1) 3 1 vI (.slice Ao off.length co) off from HF3.out) (by omega) s4; have O4 : Own w4 (w.heap.size + 1) 47 6 LegD.vals (.slice (some ⟨gl, 0, none⟩) legs.length cl) legs := Own.savedN (show Own (w3.alloc (.cells #[.int .i64 0, .int .i64 60, .int .i64 61, .int .i64 (-1)] 3)).drew (w.heap.size + 1) 47 6 LegD.vals (.slice (some ⟨gl, 0, none⟩) legs.length cl) legs from HO3.out) (by omega) s4; have lw4 : w3.heap.size ≤ w4.heap.size := Nat.le_trans bS.size s4.size; have lg4 : g < w4.heap.size := Nat.lt_of_lt_of_le lgg lw4; have ng4 : ¬ g = w4.heap.size := Nat.ne_of_lt lg4; have Q4 : Box w4 g 31 #[.slice (some ⟨gl, 0, none⟩) legs.length cl, .slice Ao off.length co, .int .i64 ch] := Box.saves (QB.drew) s4 ngC; have P4 : Box w4 w.heap.size 31 #[.slice none 0 0, .slice none 0 0, .int .i64 0] := Box.saves (PB.drew) s4 (by omega); have S4 := HS3.out.drew.trans s4) | (refine stepN_int (by rfl) (.tmp 47) (.tmp 51) (by rfl) (w.heap.size + 1) (.slice Ao off.length co) off (by rfl) (F4.keep ((Below.refl _ _).alloc (Nat.le_refl _) _) (Nat.le_refl _)) nn w4.heap.size (by rfl) (cell_newN _ _ _) (by omega) (by simp; omega) ?_; intro v7 w7 F7 hgrow; have B7 : Below (w.heap.size + 1) w4 w7 := ((Below.refl (w.heap.size + 1) w4).alloc (by omega) _).grown hgrow (by simp; omega) (fun g' q => (World.ownsRow.lt F4 g' q).1); have Q7 := (Q4.alloc _).grown hgrow (fun e => hFg e.symm); have P7 := P4.keepB B7 (by omega); have O7 := own_grownL (O4.keep ((Below.refl _ _).alloc (Nat.le_refl _) _) (Nat.le_refl _)) hgrow (fun g' n c e e2 => by injection e with e3; injection e3 with e3; injection e3 with e3 e4; subst e3; exact hFl e2.symm); have c7 := c4.keepB B7 (by omega); have S7 := S4.belowR B7 (by omega); obtain ⟨A7, cp7, rfl, h71, h72⟩ := F7.form; have hl7 : (off ++ [nn]).length = off.length + 1 := (by simp); rw [hl7] at F7 ⊢; clear hl7; have q0d : w7.cell? ⟨g, 0, none⟩ = some (.slice (some ⟨gl, 0, none⟩) legs.length cl) := Q7.cell 0; have q1d : w7.cell? ⟨g, 1, none⟩ = some (.slice Ao off.length co) := Q7.cell 1; have q2d : w7.cell? ⟨g, 2, none⟩ = some (.int .i64 ch) := Q7.cell 2; have qfd : ∀ j, w7.frozen? ⟨g, j, none⟩ = false := fun j => Q7.frozen j) | fail)
    all_goals
      have hnn : okI nn := (fun x hx => nums_ok x (by unfold offNums at hx; simp [startNums, takesNums, daysNums, offNums, chNums] at hx ⊢; omega)) nn hm
      have F8 := own_farL (p := ⟨g, 1, none⟩) F7 (own_box_ne (by decide) F7 Q7) (.slice A7 (off.length + 1) cp7)
      have O8 := own_farL (p := ⟨g, 1, none⟩) O7 (own_box_ne (by decide) O7 Q7) (.slice A7 (off.length + 1) cp7)
      have c8 := c7.setB (p := ⟨g, 1, none⟩) (by simp only; omega) (.slice A7 (off.length + 1) cp7)
      have S8 := S7.setNew (p := ⟨g, 1, none⟩) (by simp only; omega) (.slice A7 (off.length + 1) cp7)
      have HE := Lib.hid (anyNet_end (O8.slice Leg_len (by omega)) hLk n1 (by omega) (F8.slice vI_len (by omega)) (fun x hx => by rcases List.mem_append.1 hx with h | h; (have := okF x h; unfold okI; omega); (rw [List.mem_singleton.1 h]; exact hnn)) (by simp; omega) (show okI ch by unfold okI; omega) (own_awayL O8) (own_awayL F8) c8 S8 lt)
      have p0 : w7.cell? ⟨w.heap.size, 0, none⟩ = some (.slice none 0 0) := P7.cell 0
      have p1 : w7.cell? ⟨w.heap.size, 1, none⟩ = some (.slice none 0 0) := P7.cell 1
      have p2 : w7.cell? ⟨w.heap.size, 2, none⟩ = some (.int .i64 0) := P7.cell 2
      have pf : ∀ j, w7.frozen? ⟨w.heap.size, j, none⟩ = false := fun j => P7.frozen j
      clear c4 s4 O4 F4 O7 F7 F8 O8 c8 S8 c7 S7 hgrow B7 q0b q1b q2b q0c q1c q2c hS bS hm
      go_wp2_with fail
      refine bodyPost_ret (v := .agg #[.slice (some ⟨gl, 0, none⟩) legs.length cl, .slice A7 (off.length + 1) cp7, .int .i64 ch]) (by simp [results, Try.results42, go_sem, p0, p1, p2]) rfl ?_
      exact HE.out
  · skip
    have nPg : ¬ w.heap.size = g := by omega
    have ngP : ¬ g = w.heap.size := by omega
    have nlg : ¬ gl = g := by omega
    have ngl : ¬ g = gl := by omega
    have nlP : ¬ gl = w.heap.size := by omega
    have nPl : ¬ w.heap.size = gl := by omega
    have nlC : gl ≠ C := by omega
    have ngC : g ≠ C := by omega
    have lgg := Q.lt
    have hS := lit_slice (f := Value.int .i64) (vals := vI) (fun _ => rfl) chNums 3 w3 #[.int .i64 (-1), .int .i64 240, .int .i64 241] rfl (by decide)
    have bS : Below w3.heap.size w3 (w3.alloc (.cells #[.int .i64 (-1), .int .i64 240, .int .i64 241] 3)) := by go_grown
    have q0b := cell_keep bS q0; have q1b := cell_keep bS q1; have q2b := cell_keep bS q2
    replace P := P.keep bS; replace Q := Q.keep bS
    have O4 := O3.keep bS (Nat.le_refl _); have F4 := F3.keep bS (Nat.le_refl _); have S4 := S3.trans (Saves.of_below bS)
    clear S3 O3 F3 q0b q1b q2b
    go_wp2_with fail
    refine (int_any C chNums _ _ (c3.keep bS) (fun x hx => nums_ok x (by unfold chNums at hx; simp [startNums, takesNums, daysNums, offNums, chNums] at hx ⊢; omega)) (by decide) hS (fun b off n c hv => by have := c3.lt; injection hv with e1 e2 e3; injection e1 with e1; injection e1 with e1 e2; omega)).mono ?_
    rintro e w4 ⟨nn, rfl, hm, c4, s4⟩
    have hnn : okI nn := (fun x hx => nums_ok x (by unfold chNums at hx; simp [startNums, takesNums, daysNums, offNums, chNums] at hx ⊢; omega)) nn hm
    replace O4 := O4.savedN (by omega) s4; replace F4 := F4.savedN (by omega) s4; replace S4 := S4.trans s4
    replace P := P.saves s4 (by omega); replace Q := Q.saves s4 (by omega)
    have O5 := own_farL (p := ⟨g, 2, none⟩) O4 (fun b n c e => by injection e with e1; injection e1 with e1; injection e1 with e1 e2; simp only; omega) (.int .i64 nn)
    have F5 := own_farL (p := ⟨g, 2, none⟩) F4 (fun b n c e => by injection e with e1 e2 e3; have := ovg b e1; simp only; omega) (.int .i64 nn)
    have c5 := c4.setB (p := ⟨g, 2, none⟩) (by simp only; omega) (.int .i64 nn)
    have S5 := S4.setNew (p := ⟨g, 2, none⟩) (by simp only; omega) (.int .i64 nn)
    have HE := Lib.hid (anyNet_end (O5.slice Leg_len (by omega)) hLk n1 (by omega) (F5.slice vI_len (by omega)) (fun x hx => by have := okF x hx; unfold okI; omega) (by omega) hnn (own_awayL O5) (own_awayL F5) c5 S5 lt)
    have p0 : w4.cell? ⟨w.heap.size, 0, none⟩ = some (.slice none 0 0) := P.cell 0
    have p1 : w4.cell? ⟨w.heap.size, 1, none⟩ = some (.slice none 0 0) := P.cell 1
    have p2 : w4.cell? ⟨w.heap.size, 2, none⟩ = some (.int .i64 0) := P.cell 2
    have pf : ∀ j, w4.frozen? ⟨w.heap.size, j, none⟩ = false := fun j => P.frozen j
    have q0 : w4.cell? ⟨g, 0, none⟩ = some (.slice (some ⟨gl, 0, none⟩) legs.length cl) := Q.cell 0
    have q1 : w4.cell? ⟨g, 1, none⟩ = some (.slice Ao off.length co) := Q.cell 1
    have q2 : w4.cell? ⟨g, 2, none⟩ = some (.int .i64 ch) := Q.cell 2
    have qf : ∀ j, w4.frozen? ⟨g, j, none⟩ = false := fun j => Q.frozen j
    clear c4 s4 O4 F4 S4 F5 O5 c5 S5 hS bS hm
    go_wp2_with fail
    refine bodyPost_ret (v := .agg #[.slice (some ⟨gl, 0, none⟩) legs.length cl, .slice Ao off.length co, .int .i64 nn]) (by simp [results, Try.results42, go_sem, p0, p1, p2]) rfl ?_
    exact HE.out
  · skip
    obtain ⟨b_, off_, y, eA, hb_, hy, hcl⟩ := (O3.slice Leg_len (by omega)).cells (k := k) hk
    injection eA with eA; injection eA with e1 e2; subst e1 e2
    have d0 : w3.cell? ⟨gl, k * 6, none⟩ = some (.string y.src) := by simpa using hcl 0 _ rfl
    have d1 : w3.cell? ⟨gl, k * 6 + 1, none⟩ = some (.string y.dst) := by simpa using hcl 1 _ rfl
    have d2 : w3.cell? ⟨gl, k * 6 + 2, none⟩ = some (.int .i64 y.start) := by simpa using hcl 2 _ rfl
    have d3 : w3.cell? ⟨gl, k * 6 + 3, none⟩ = some (.int .i64 y.takes) := by simpa using hcl 3 _ rfl
    have d4 : w3.cell? ⟨gl, k * 6 + 4, none⟩ = some (.int .i64 y.days) := by simpa using hcl 4 _ rfl
    have d5 : w3.cell? ⟨gl, k * 6 + 5, none⟩ = some (.int .i64 y.room) := by simpa using hcl 5 _ rfl
    have df : ∀ i, w3.frozen? ⟨gl, i, none⟩ = false := fun i => World.ownsRow.frozenAt (show w3.ownsRow (w.heap.size + 1) 47 6 (.slice (some ⟨gl, 0, none⟩) legs.length cl) legs.length (legs.flatMap LegD.vals) from O3) i
    have lgl : gl < w3.heap.size := hb_
    have hyk : y.ok := hLk y (mem_of hy.out)
    clear hcl hy hb_
    have nPg : ¬ w.heap.size = g := by omega
    have ngP : ¬ g = w.heap.size := by omega
    have nlg : ¬ gl = g := by omega
    have ngl : ¬ g = gl := by omega
    have nlP : ¬ gl = w.heap.size := by omega
    have nPl : ¬ w.heap.size = gl := by omega
    have nlC : gl ≠ C := by omega
    have ngC : g ≠ C := by omega
    have lgg := Q.lt
    have O5 := own_storeL (k := k) (j := 1) (v := .string y.src) (fun z => { z with dst := y.src }) (fun _ => rfl) (by omega) O3
    have ap := own_apart (by decide) F3 O3
    have F5 := own_farL (p := ⟨gl, k * 6 + 1, none⟩) F3 (fun b n c e => ap b n c gl _ _ e rfl) (.string y.src)
    have c5 := c3.setB (p := ⟨gl, k * 6 + 1, none⟩) (by simp only; omega) (.string y.src)
    have S5 := S3.setNew (p := ⟨gl, k * 6 + 1, none⟩) (by simp only; omega) (.string y.src)
    have Q5 : Box _ _ _ _ := Q.far (p := ⟨gl, k * 6 + 1, none⟩) (by simp only; omega) (.string y.src)
    have P5 : Box _ _ _ _ := P.far (p := ⟨gl, k * 6 + 1, none⟩) (by simp only; omega) (.string y.src)
    go_wp2_with fail
    go_region_held3 (fun R => R.cell? ⟨g, 0, none⟩ = some (.slice (some ⟨gl, 0, none⟩) legs.length cl) ∧ R.cell? ⟨gl, k * 6, none⟩ = some (.string y.src)) (((try go_split_ands); refine ⟨?_, ?_⟩ <;> first | assumption | (apply cell_farN <;> assumption) | (apply cell_offN; assumption))) (fail)
    try go_split_ands
    go_upto_region 20 with fail
    obtain ⟨X, hX⟩ : ∃ X, X = (w3.setCell ⟨gl, k * 6 + 1, none⟩ (.string y.src)).drew := ⟨_, rfl⟩
    rw [← hX]
    replace Q5 : Box X g 31 #[.slice (some ⟨gl, 0, none⟩) legs.length cl, .slice Ao off.length co, .int .i64 ch] := by rw [hX]; exact Q5.drew
    replace P5 : Box X w.heap.size 31 #[.slice none 0 0, .slice none 0 0, .int .i64 0] := by rw [hX]; exact P5.drew
    replace O5 : Own X (w.heap.size + 1) 47 6 LegD.vals (.slice (some ⟨gl, 0, none⟩) legs.length cl) (legs.modify k fun z => { z with dst := y.src }) := by rw [hX]; exact O5.drewN 1
    replace F5 : Own X (w.heap.size + 1) 3 1 vI (.slice Ao off.length co) off := by rw [hX]; exact F5.drewN 1
    replace c5 : Cur C X := by rw [hX]; exact curN_drew c5
    replace S5 : Saves C w X := by rw [hX]; exact S5.drew
    have HE := Lib.hid (anyNet_end (O5.slice Leg_len (by omega)) (modify_okL hLk (fun z h => ⟨h.1, hyk.1, h.2.2⟩)) (by simpa using n1) (by simp; omega) (F5.slice vI_len (by omega)) (fun x hx => by have := okF x hx; unfold okI; omega) (by omega) (show okI ch by unfold okI; omega) (own_awayL O5) (own_awayL F5) c5 S5 lt)
    have p0 : X.cell? ⟨w.heap.size, 0, none⟩ = some (.slice none 0 0) := P5.cell 0
    have p1 : X.cell? ⟨w.heap.size, 1, none⟩ = some (.slice none 0 0) := P5.cell 1
    have p2 : X.cell? ⟨w.heap.size, 2, none⟩ = some (.int .i64 0) := P5.cell 2
    have pf : ∀ j, X.frozen? ⟨w.heap.size, j, none⟩ = false := fun j => P5.frozen j
    clear q0 q1 q2 d0 d1 d2 d3 d4 d5 df qf
    have q0 : X.cell? ⟨g, 0, none⟩ = some (.slice (some ⟨gl, 0, none⟩) legs.length cl) := Q5.cell 0
    have q1 : X.cell? ⟨g, 1, none⟩ = some (.slice Ao off.length co) := Q5.cell 1
    have q2 : X.cell? ⟨g, 2, none⟩ = some (.int .i64 ch) := Q5.cell 2
    clear hX O5 F5 c5 S5 O3 F3 c3 S3
    go_wp2_with fail
    refine bodyPost_ret (v := .agg #[.slice (some ⟨gl, 0, none⟩) legs.length cl, .slice Ao off.length co, .int .i64 ch]) (by simp [results, Try.results42, go_sem, p0, p1, p2]) rfl ?_
    exact HE.out
  · skip
    have nPg : ¬ w.heap.size = g := by omega
    have ngP : ¬ g = w.heap.size := by omega
    have nlg : ¬ gl = g := by omega
    have ngl : ¬ g = gl := by omega
    have nlP : ¬ gl = w.heap.size := by omega
    have nPl : ¬ w.heap.size = gl := by omega
    have nlC : gl ≠ C := by omega
    have ngC : g ≠ C := by omega
    have lgg := Q.lt
    go_wp2_with fail
    go_loopg [] (21 - legs.length) (fun m wr => ∃ (A1 : Option Addr) (n cl1 : Nat) (ls : List LegD), ls.length = n ∧ n + m = 21 ∧ k < n ∧ Box wr g 31 #[.slice A1 n cl1, .slice Ao off.length co, .int .i64 ch] ∧ Own wr (w.heap.size + 1) 47 6 LegD.vals (.slice A1 n cl1) ls ∧ (∀ x ∈ ls, x.ok) ∧ Own wr (w.heap.size + 1) 3 1 vI (.slice Ao off.length co) off ∧ Box wr w.heap.size 31 #[.slice none 0 0, .slice none 0 0, .int .i64 0] ∧ Cur C wr ∧ Saves C w wr)
    case atStart => exact ⟨some ⟨gl, 0, none⟩, _, cl, legs, rfl, by omega, hk, Q, O3, hLk, F3, P, c3, S3⟩
    case round =>
      clear Q O3 hLk F3 P c3 S3 q0 q1 q2 qf lgg nlg ngl nlP nPl nlC hFl hL
      obtain ⟨A1, n, cl1, ls, hn, hm, hkl, Q, O, hok, F, P, cC, S⟩ := hrel
      obtain ⟨g1, rfl⟩ : ∃ g1, A1 = some ⟨g1, 0, none⟩ := by
        rcases O.2 with ⟨e, h⟩ | ⟨g1, cap, cur, hv, -⟩
        · omega
        · injection hv with h1; exact ⟨g1, h1⟩
      have ng1 : g1 ≠ g := own_box_ne (by decide) O Q _ _ _ rfl
      have g1b := own_blockN O
      have n1C : g1 ≠ C := by omega
      have hFl : (.slice Ao off.length co : Value).ownBlock ≠ some g1 := own_block_ne (by decide) F O
      have lg := Q.lt
      have lP := P.lt
      have lg1 : g1 < wr.heap.size := (World.ownsRow.lt O g1 rfl).2
      have q0 : wr.cell? ⟨g, 0, none⟩ = some (.slice (some ⟨g1, 0, none⟩) n cl1) := Q.cell 0
      have q1 : wr.cell? ⟨g, 1, none⟩ = some (.slice Ao off.length co) := Q.cell 1
      have q2 : wr.cell? ⟨g, 2, none⟩ = some (.int .i64 ch) := Q.cell 2
      have qf : ∀ i, wr.frozen? ⟨g, i, none⟩ = false := fun i => Q.frozen i
      have nr1 : ¬ g = wr.heap.size := by omega
      have nr2 : ¬ g1 = wr.heap.size := by omega
      by_cases hlt : n < 21
      · have hlt' : (n : Int) < 21 := by omega
        obtain ⟨b_, off_, y, eA, hb_, hy, hcl⟩ := (O.slice Leg_len (by omega)).cells (k := k) (by omega)
        injection eA with eA; injection eA with e1 e2; subst e1 e2
        have d0 : wr.cell? ⟨g1, k * 6, none⟩ = some (.string y.src) := by simpa using hcl 0 _ rfl
        have d1 : wr.cell? ⟨g1, k * 6 + 1, none⟩ = some (.string y.dst) := by simpa using hcl 1 _ rfl
        have d2 : wr.cell? ⟨g1, k * 6 + 2, none⟩ = some (.int .i64 y.start) := by simpa using hcl 2 _ rfl
        have d3 : wr.cell? ⟨g1, k * 6 + 3, none⟩ = some (.int .i64 y.takes) := by simpa using hcl 3 _ rfl
        have d4 : wr.cell? ⟨g1, k * 6 + 4, none⟩ = some (.int .i64 y.days) := by simpa using hcl 4 _ rfl
        have d5 : wr.cell? ⟨g1, k * 6 + 5, none⟩ = some (.int .i64 y.room) := by simpa using hcl 5 _ rfl
        have hyk : y.ok := hok y (mem_of hy.out)
        clear hcl hy hb_
        have kn : (k : Int) < (n : Int) := by omega
        have OA : Own ((wr.alloc (.cells #[.string y.src, .string y.dst, .int .i64 y.start, .int .i64 y.takes, .int .i64 y.days, .int .i64 y.room] 47)).drew) (w.heap.size + 1) 47 6 LegD.vals (.slice (some ⟨g1, 0, none⟩) n cl1) ls := Own.alloc O _
        have FA : Own ((wr.alloc (.cells #[.string y.src, .string y.dst, .int .i64 y.start, .int .i64 y.takes, .int .i64 y.days, .int .i64 y.room] 47)).drew) (w.heap.size + 1) 3 1 vI (.slice Ao off.length co) off := Own.alloc F _
        have NA : ∀ j u, y.vals[j]? = some u → ((wr.alloc (.cells #[.string y.src, .string y.dst, .int .i64 y.start, .int .i64 y.takes, .int .i64 y.days, .int .i64 y.room] 47)).drew).cell? ⟨wr.heap.size, j, none⟩ = some u := newsL wr y
        have HA : w.heap.size + 1 ≤ ((wr.alloc (.cells #[.string y.src, .string y.dst, .int .i64 y.start, .int .i64 y.takes, .int .i64 y.days, .int .i64 y.room] 47)).drew).heap.size := by show _ ≤ (wr.heap.push _).size; simp; omega
        have BA : Below (w.heap.size + 1) wr ((wr.alloc (.cells #[.string y.src, .string y.dst, .int .i64 y.start, .int .i64 y.takes, .int .i64 y.days, .int .i64 y.room] 47)).drew) := ((Below.refl (w.heap.size + 1) wr).alloc (by omega) _).drew
        have QA : Box ((wr.alloc (.cells #[.string y.src, .string y.dst, .int .i64 y.start, .int .i64 y.takes, .int .i64 y.days, .int .i64 y.room] 47)).drew) g 31 #[.slice (some ⟨g1, 0, none⟩) n cl1, .slice Ao off.length co, .int .i64 ch] := (Q.alloc _).drew
        have ls21 : ls.length ≤ 1000 := by omega
        have HOA := Lib.hid OA; have HFA := Lib.hid FA; have HNA := Lib.hid NA; have HBA := Lib.hid BA; have HQA := Lib.hid QA; have HHA := Lib.hid HA
        clear OA FA NA BA QA HA
        have HN := Lib.hid hn; clear hn
        go_wp2_with fail
        go_region_law (first | (refine stepN_leg (by rfl) (.tmp 80) (.tmp 86) (by rfl) (w.heap.size + 1) (.slice (some ⟨g1, 0, none⟩) n cl1) ls (by rfl) HOA.out y wr.heap.size (by rfl) HNA.out ls21 HHA.out ?_; intro v7 w7 O7 hgrow; have B7 := HBA.out.grown hgrow HHA.out (fun g' q => (World.ownsRow.lt HOA.out g' q).1); have Q7 := HQA.out.grown hgrow (fun e => ng1 (Option.some.inj e).symm); have P7 := P.keepB B7 (by omega); have F7 := own_grownL HFA.out hgrow (fun g' n c e e2 => hFl (by rw [e]; exact e2)); have c7 := cC.keepB B7 (by omega); have S7 := S.belowR B7 (by omega); obtain ⟨A7, cp7, rfl, h71, h72⟩ := O7.form; have hl7 : (ls ++ [y]).length = n + 1 := (by simp [HN.out]); rw [hl7] at O7 ⊢; have HL7 := Lib.hid hl7; clear hl7; have q0d : w7.cell? ⟨g, 0, none⟩ = some (.slice (some ⟨g1, 0, none⟩) n cl1) := Q7.cell 0; have qfd : ∀ j, w7.frozen? ⟨g, j, none⟩ = false := fun j => Q7.frozen j) | fail)
        all_goals
          clear q0d qfd q0 q1 q2 qf d0 d1 d2 d3 d4 d5 hgrow B7
          go_wp2_with fail
          go_roundg (gk - 1)
          case rel => exact ⟨A7, n + 1, cp7, ls ++ [y], HL7.out, by omega, by omega, Q7.set 0 _, own_farL O7 (own_box_ne (by decide) O7 Q7) _, fun x hx => by rcases List.mem_append.1 hx with h | h; (exact hok x h); (rw [List.mem_singleton.1 h]; exact hyk), own_farL F7 (own_box_ne (by decide) F7 Q7) _, P7.far (by simp only; omega) _, c7.setB (by simp only; omega) _, S7.setNew (by simp only; omega) _⟩
          case measure => omega
      · obtain rfl : n = 21 := by omega
        obtain ⟨hc21, hcm⟩ : 21 ≤ cl1 ∧ cl1 ≤ maxLen := by obtain ⟨A2, c2, e, h1, h2⟩ := O.form; injection e with e1 e2 e3; omega
        unfold maxLen at hcm
        have nc0 : ¬ cl1 = 0 := by omega
        have hS := lit_slice (f := Value.int .i64) (vals := vI) (fun _ => rfl) lenNums 3 wr #[.int .i64 20, .int .i64 21] rfl (by decide)
        have bS : Below wr.heap.size wr (wr.alloc (.cells #[.int .i64 20, .int .i64 21] 3)) := by go_grown
        have cS := curN_drew (cC.keep bS)
        have q0b := cell_keep bS q0; have q1b := cell_keep bS q1; have q2b := cell_keep bS q2
        have QB := Q.keep bS; have PB := P.keep bS
        have HO3 := Lib.hid (O.keep bS (Nat.le_refl _)); have HF3 := Lib.hid (F.keep bS (Nat.le_refl _)); have HS3 := Lib.hid (S.trans (Saves.of_below bS))
        clear S O F P
        have HN := Lib.hid hn; clear hn
        go_wp2_with fail
        go_region_with (go_at_call 44; refine (int_any C lenNums _ _ cS (fun x hx => by have := lens_ok x hx; unfold okI; omega) (by decide) (slice_drew hS) (fun b off n c hv => by have := cC.lt; injection hv with e1 e2 e3; injection e1 with e1; injection e1 with e1 e2; omega)).mono ?_; rintro e w4 ⟨nn, rfl, hm4, c4, s4⟩; obtain ⟨m4, h20, h21, rfl⟩ := lens_nat hm4; have q0c := Saves.at' s4 q0b ngC; have q1c := Saves.at' s4 q1b ngC; have q2c := Saves.at' s4 q2b ngC; have m40 : (0 : Int) ≤ (m4 : Int) := Int.natCast_nonneg _; have m41 : (m4 : Int) ≤ (cl1 : Int) := Int.ofNat_le.2 (Nat.le_trans h21 hc21); have Q4 : Box w4 g 31 #[.slice (some ⟨g1, 0, none⟩) 21 cl1, .slice Ao off.length co, .int .i64 ch] := Box.saves (QB.drew) s4 ngC; have qfd : ∀ j, w4.frozen? ⟨g, j, none⟩ = false := fun j => Q4.frozen j)
        all_goals
          have P4 : Box w4 w.heap.size 31 #[.slice none 0 0, .slice none 0 0, .int .i64 0] := Box.saves (PB.drew) s4 (by omega)
          have O4 : Own w4 (w.heap.size + 1) 47 6 LegD.vals (.slice (some ⟨g1, 0, none⟩) 21 cl1) ls := Own.savedN (show Own (wr.alloc (.cells #[.int .i64 20, .int .i64 21] 3)).drew (w.heap.size + 1) 47 6 LegD.vals (.slice (some ⟨g1, 0, none⟩) 21 cl1) ls from HO3.out) (by omega) s4
          have F4 : Own w4 (w.heap.size + 1) 3 1 vI (.slice Ao off.length co) off := Own.savedN (show Own (wr.alloc (.cells #[.int .i64 20, .int .i64 21] 3)).drew (w.heap.size + 1) 3 1 vI (.slice Ao off.length co) off from HF3.out) (by omega) s4
          have F5 := own_farL (p := ⟨g, 0, none⟩) F4 (own_box_ne (by decide) F4 Q4) (.slice (some ⟨g1, 0, none⟩) m4 cl1)
          have O5 := own_farL (p := ⟨g, 0, none⟩) O4 (own_box_ne (by decide) O4 Q4) (.slice (some ⟨g1, 0, none⟩) m4 cl1)
          have c5 := c4.setB (p := ⟨g, 0, none⟩) (by simp only; omega) (.slice (some ⟨g1, 0, none⟩) m4 cl1)
          have S5 := (HS3.out.drew.trans s4).setNew (p := ⟨g, 0, none⟩) (by simp only; omega) (.slice (some ⟨g1, 0, none⟩) m4 cl1)
          have hlt4 : (ls.take m4).length = m4 := by rw [List.length_take]; have := HN.out; omega
          have HE := Lib.hid (anyNet_end ((O5.slice Leg_len (by omega)).takeL (n := m4) (by have := HN.out; omega)) (fun x hx => hok x (List.mem_of_mem_take hx)) (by omega) (by omega) (F5.slice vI_len (by omega)) (fun x hx => by have := okF x hx; unfold okI; omega) (by omega) (show okI ch by unfold okI; omega) (fun b off n c e => own_awayL O5 b off 21 c (by injection e with e1 e2 e3; rw [e1, e3])) (own_awayL F5) c5 S5 lt)
          have p0 : w4.cell? ⟨w.heap.size, 0, none⟩ = some (.slice none 0 0) := P4.cell 0
          have p1 : w4.cell? ⟨w.heap.size, 1, none⟩ = some (.slice none 0 0) := P4.cell 1
          have p2 : w4.cell? ⟨w.heap.size, 2, none⟩ = some (.int .i64 0) := P4.cell 2
          have pf : ∀ j, w4.frozen? ⟨w.heap.size, j, none⟩ = false := fun j => P4.frozen j
          clear c4 s4 O4 F4 F5 O5 c5 S5 q0b q1b q2b hS bS hlt4
          go_wp2_with fail
          refine bodyPost_ret (v := .agg #[.slice (some ⟨g1, 0, none⟩) m4 cl1, .slice Ao off.length co, .int .i64 ch]) (by simp [results, Try.results42, go_sem, p0, p1, p2]) rfl ?_
          exact HE.out
  all_goals
    have p0 : w3.cell? ⟨w.heap.size, 0, none⟩ = some (.slice none 0 0) := P.cell 0
    have p1 : w3.cell? ⟨w.heap.size, 1, none⟩ = some (.slice none 0 0) := P.cell 1
    have p2 : w3.cell? ⟨w.heap.size, 2, none⟩ = some (.int .i64 0) := P.cell 2
    have pf : ∀ j, w3.frozen? ⟨w.heap.size, j, none⟩ = false := fun j => P.frozen j
    have nPg : ¬ w.heap.size = g := by omega
    have ngP : ¬ g = w.heap.size := by omega
    have HE := Lib.hid (anyNet_end (O3.slice Leg_len (by omega)) hLk n1 (by omega) (F3.slice vI_len (by omega)) (fun x hx => by have := okF x hx; unfold okI; omega) (by omega) (show okI ch by unfold okI; omega) (own_awayL O3) (own_awayL F3) c3 S3 lt)
    clear c3 S3 O3 F3
    go_wp2_with fail
    refine bodyPost_ret (v := .agg #[.slice (some ⟨gl, 0, none⟩) legs.length cl, .slice Ao off.length co, .int .i64 ch]) (by simp [results, Try.results42, go_sem, p0, p1, p2]) rfl ?_
    exact HE.out
end Go.Proofs.Ytdmeinfdldiegaa
