/- Putting an element into a slice of the call's own: append(append(append([]T{}, out[:k]...), x), out[k:]...). No condition. -/
import Derived.Test.YtdmeinfdldiegaaDraws
import Derived.Test.YtdmeinfdldiegaaOwn
import Derived.Laws.AppendOwn
namespace Go.Proofs.Ytdmeinfdldiegaa
open Go.RowKit Go.PlainAid
set_option maxRecDepth 100000
set_option linter.unusedVariables false
/-- append onto a row of the call's own, as a step of a region. -/
theorem step_append_row {P : Program} {ops : Array Oper} {o : Oper} {a : Act} {w : World} {K : Act → World → Prop} {Q : Exit → Act → World → Prop} {E : Prop} (hgd : o.guard = none) (s x : Operand) (t : TypeId)
    (ho : o.op = .call { callee := .builtin .append, args := #[s, x], argTypes := #[t, t] })
    (base : Nat) (e : TypeId) (i : TypeInfo) (z : Value) (size bytes : Nat) (ht : P.underlying t = some (.slice e)) (hi : P.info? e = some i) (hz : i.zero = some z)
    (hsize : i.size = size) (hby : i.bytes = bytes) (hzs : z.cells.size = size) (hsz : 0 < size)
    (v : Value) (n : Nat) (xs : List Value) (hs : a.eval s = v) (hown : w.ownsRow base e size v n xs)
    (ad : Addr) (m c : Nat) (news : List Value) (hx : a.eval x = .slice (some ad) m c) (hl : news.length = m * size) (hnews : ∀ j u, news[j]? = some u → w.cell? (ad.add j) = some u) (h1 : ∀ u ∈ news, u.oneCell' = true)
    (h63 : n + m ≤ maxLen) (hbytes : (n + m) * bytes ≤ 140737488355328) (hbase : base ≤ w.heap.size)
    (h : ∀ v' w', w'.ownsRow base e size v' (n + m) (xs ++ news) → w.grownBy w' v.ownBlock → (v' = .slice none 0 0 ↔ v = .slice none 0 0 ∧ m = 0) → K (a.put o.dst v') w') :
    if Region.wanted o (yielded ops a.tmps) = true then Oper.wp P o a w K Q else E := by
  rw [if_pos (by simp [Region.wanted, hgd])]
  exact wp_append_own w s x t ho base e i z size bytes ht hi hz hsize hby hzs hsz v n xs hs hown ad m c news hx hl hnews h1 h63 hbytes hbase h
theorem own_vals {α : Type} {w : World} {base size : Nat} {e : TypeId} {vals : α → List Value} {v : Value} {xs ys : List α} {n : Nat} (hn : n = ys.length) (h : w.ownsRow base e size v (xs.length + n) (xs.flatMap vals ++ ys.flatMap vals)) : Own w base e size vals v (xs ++ ys) := by
  subst hn
  unfold Own
  rw [List.flatMap_append, List.length_append]
  exact h
/-- The same, in the words of lists; what the row's type is like stands in the first facts. -/
theorem step_append_vals {α : Type} {vals : α → List Value} {size bytes : Nat} {e t : TypeId} {i0 : TypeInfo} {z : Value} (hv : ∀ x, (vals x).length = size) (h1 : ∀ x, ∀ u ∈ vals x, u.oneCell' = true) (hsz : 0 < size)
    (ht : Try.prog.underlying t = some (.slice e)) (hi : Try.prog.info? e = some i0) (hz0 : i0.zero = some z) (hz1 : i0.size = size) (hz2 : i0.bytes = bytes) (hzs : z.cells.size = size) (hby : bytes ≤ 64)
    {ops : Array Oper} {o : Oper} {a : Act} {w : World} {K : Act → World → Prop} {Q : Exit → Act → World → Prop} {E : Prop} (hgd : o.guard = none) (s x : Operand)
    (ho : o.op = .call { callee := .builtin .append, args := #[s, x], argTypes := #[t, t] }) {wt : World} (hq : Below wt.heap.size wt w) (v : Value) (xs : List α) (hs : a.eval s = v) (hown : Own w wt.heap.size e size vals v xs)
    (ad : Addr) (m c : Nat) (ys : List α) (hx : a.eval x = .slice (some ad) m c) (hl : ys.length = m) (hnews : ∀ j u, (ys.flatMap vals)[j]? = some u → w.cell? (ad.add j) = some u) (hlen : xs.length + ys.length ≤ 4194304)
    (h : ∀ v' w', Own w' wt.heap.size e size vals v' (xs ++ ys) → Below wt.heap.size wt w' → (v ≠ .slice none 0 0 → v' ≠ .slice none 0 0) → w.grownBy w' v.ownBlock → K (a.put o.dst v') w') :
    if Region.wanted o (yielded ops a.tmps) = true then Oper.wp Try.prog o a w K Q else E := by
  subst hl
  have hb2 : (xs.length + ys.length) * bytes ≤ 4194304 * 64 := Nat.mul_le_mul hlen hby
  refine step_append_row hgd s x t ho wt.heap.size e i0 z size bytes ht hi hz0 hz1 hz2 hzs hsz v xs.length (xs.flatMap vals) hs hown ad ys.length c (ys.flatMap vals) hx (flatMap_len hv ys) hnews ?_ (by unfold maxLen; omega) (by omega) hq.size ?_
  · intro u hu
    rw [List.mem_flatMap] at hu
    obtain ⟨y, -, hy⟩ := hu
    exact h1 y u hy
  · intro v' w' own2 hg hnil
    exact h v' w' (own_vals rfl own2) (hq.grown hg hq.size (fun g' hg' => (World.ownsRow.lt hown g' hg').1)) (fun hv hv' => hv (hnil.1 hv').1) hg
/-- A slice of elements: their cells, one behind the other. -/
theorem own_news {α : Type} {w : World} {base size g n c : Nat} {e : TypeId} {vals : α → List Value} {xs : List α} (hv : ∀ x, (vals x).length = size) (h : Own w base e size vals (.slice (some ⟨g, 0, none⟩) n c) xs) : ∀ j u, (xs.flatMap vals)[j]? = some u → w.cell? ⟨g, j, none⟩ = some u := by
  intro j u hu
  obtain ⟨A, c', e1, -, -⟩ := h.form
  injection e1 with _ e2 _
  subst e2
  have hj : j < (xs.flatMap vals).length := (List.getElem?_eq_some_iff.1 hu).1
  rw [World.ownsRow.cellAt h j (by rw [flatMap_len hv] at hj; exact hj)]
  exact hu
theorem news_take {α : Type} {w : World} {g : Nat} {vals : α → List Value} {xs : List α} (k : Nat) (h : ∀ j u, (xs.flatMap vals)[j]? = some u → w.cell? ⟨g, j, none⟩ = some u) : ∀ j u, ((xs.take k).flatMap vals)[j]? = some u → w.cell? ⟨g, j, none⟩ = some u := by
  intro j u hu
  refine h j u ?_
  conv => lhs; rw [← List.take_append_drop k xs]
  rw [List.flatMap_append]
  exact List.getElem?_append_left (List.getElem?_eq_some_iff.1 hu).1 ▸ hu
theorem news_drop {α : Type} {w : World} {g size : Nat} {vals : α → List Value} (hv : ∀ x, (vals x).length = size) {xs : List α} {k : Nat} (hk : k ≤ xs.length) (h : ∀ j u, (xs.flatMap vals)[j]? = some u → w.cell? ⟨g, j, none⟩ = some u) : ∀ j u, ((xs.drop k).flatMap vals)[j]? = some u → w.cell? ⟨g, k * size + j, none⟩ = some u := by
  intro j u hu
  refine h _ u ?_
  conv => lhs; rw [← List.take_append_drop k xs]
  rw [List.flatMap_append]
  have hl : ((xs.take k).flatMap vals).length = k * size := by rw [flatMap_len hv, List.length_take]; congr 1; omega
  rw [List.getElem?_append_right (by omega), hl, Nat.add_sub_cancel_left]
  exact hu
theorem add_at {w : World} {g o : Nat} {F : List Value} (h : ∀ j u, F[j]? = some u → w.cell? ⟨g, o + j, none⟩ = some u) : ∀ j u, F[j]? = some u → w.cell? ((Addr.mk g o none).add j) = some u := by
  intro j u hu
  have := h j u hu
  unfold Addr.add
  split
  · next e => subst e; simpa using this
  · exact this
theorem add_at0 {w : World} {g : Nat} {F : List Value} (h : ∀ j u, F[j]? = some u → w.cell? ⟨g, j, none⟩ = some u) : ∀ j u, F[j]? = some u → w.cell? ((Addr.mk g 0 none).add j) = some u := add_at (o := 0) (fun j u hu => by rw [Nat.zero_add]; exact h j u hu)
theorem news_keep {α : Type} {wt w : World} {g o : Nat} {vals : α → List Value} {D : List α} (hB : Below wt.heap.size wt w) (hg : g < wt.heap.size) (h : ∀ j u, (D.flatMap vals)[j]? = some u → wt.cell? ⟨g, o + j, none⟩ = some u) : ∀ j u, (D.flatMap vals)[j]? = some u → w.cell? ((Addr.mk g o none).add j) = some u :=
  add_at fun j u hu => (hB.cell (p := ⟨g, o + j, none⟩) hg).trans (h j u hu)
theorem news_keep0 {α : Type} {wt w : World} {g : Nat} {vals : α → List Value} {D : List α} (hB : Below wt.heap.size wt w) (hg : g < wt.heap.size) (h : ∀ j u, (D.flatMap vals)[j]? = some u → wt.cell? ⟨g, j, none⟩ = some u) : ∀ j u, (D.flatMap vals)[j]? = some u → w.cell? ((Addr.mk g 0 none).add j) = some u :=
  add_at0 fun j u hu => (hB.cell (p := ⟨g, j, none⟩) hg).trans (h j u hu)
theorem news_none {α : Type} {w : World} {p : Addr} {vals : α → List Value} {D : List α} (h : D.length = 0) : ∀ j u, (D.flatMap vals)[j]? = some u → w.cell? (p.add j) = some u := by
  intro j u hu
  rw [List.length_eq_zero_iff.1 h] at hu; simp at hu
theorem own_start {α : Type} {wt Q : World} (hq : Below wt.heap.size wt Q) (e : TypeId) (size : Nat) (vals : α → List Value) : Own (Q.alloc (.cells #[] e)) wt.heap.size e size vals (.slice (some ⟨Q.heap.size, 0, none⟩) 0 0) [] :=
  ⟨by simp, .inr ⟨Q.heap.size, 0, #[], rfl, hq.size, by show (Q.heap.push _)[Q.heap.size]? = _; simp, by simp, by unfold maxLen; omega, by simp, by simp⟩⟩
theorem grown_cellI {w w' : World} {row : Option Nat} (h : w.grownBy w' row) {p : Addr} {v : Value} (hc : w.cell? p = some v) (hr : some p.block ≠ row) : w'.cell? p = some v := (World.cell?_of_block (w := w) (h.block p.block (cell_lt hc) hr)).trans hc
theorem own_start2 {α : Type} (wt : World) (o : Obj) (e : TypeId) (size : Nat) (vals : α → List Value) : Own ((wt.alloc o).alloc (.cells #[] e)) wt.heap.size e size vals (.slice (some ⟨wt.heap.size + 1, 0, none⟩) 0 0) [] := by
  have h := own_start (wt := wt) (Q := wt.alloc o) ((Below.refl _ _).alloc (Nat.le_refl _) o) e size vals
  rw [show (wt.alloc o).heap.size = wt.heap.size + 1 by simp] at h
  exact h
theorem ins_xA {wr w1 : World} {o : Obj} {v : Value} {T : TypeId} (gr : ((wr.alloc o).alloc (.cells #[v] T)).drew.grownBy w1 (Value.ownBlock (.slice (some ⟨wr.heap.size, 0, none⟩) 0 0))) : w1.cell? ⟨wr.heap.size + 1, 0, none⟩ = some v := by
  refine grown_cellI gr (p := ⟨wr.heap.size + 1, 0, none⟩) ?_ (by simp [Value.ownBlock])
  have h := (show ((wr.alloc o).alloc (.cells #[v] T)).cell? ⟨(wr.alloc o).heap.size, 0, none⟩ = some v by simp [go_sem])
  rw [show (wr.alloc o).heap.size = wr.heap.size + 1 by simp] at h
  exact h
theorem ins_xB {wr w1 : World} {o : Obj} {v : Value} {T : TypeId} (gr : ((wr.alloc (.cells #[v] T)).alloc o).drew.grownBy w1 (Value.ownBlock (.slice (some ⟨wr.heap.size + 1, 0, none⟩) 0 0))) : w1.cell? ⟨wr.heap.size, 0, none⟩ = some v := by
  refine grown_cellI gr (p := ⟨wr.heap.size, 0, none⟩) ?_ (by simp [Value.ownBlock])
  have h : ((wr.alloc (.cells #[v] T)).alloc o).cell? ⟨wr.heap.size, 0, none⟩ = some v := cell_keep ((Below.refl _ _).alloc (Nat.le_refl _) o) (by simp [go_sem])
  exact h
theorem own_none0 {α : Type} (w : World) (e : TypeId) (size : Nat) (vals : α → List Value) : Own (w.alloc (.cells #[] e)) w.heap.size e size vals (.slice (some ⟨w.heap.size, 0, none⟩) 0 0) [] :=
  ⟨by simp, .inr ⟨w.heap.size, 0, #[], rfl, Nat.le_refl _, by show (w.heap.push _)[w.heap.size]? = _; simp, by simp, by unfold maxLen; omega, by simp, by simp⟩⟩
theorem Own.some1 {α : Type} {w : World} {base size : Nat} {e : TypeId} {vals : α → List Value} {v : Value} {xs : List α} (h : Own w base e size vals v xs) (h0 : v ≠ .slice none 0 0) : ∃ g c, v = .slice (some ⟨g, 0, none⟩) xs.length c ∧ base ≤ g ∧ g < w.heap.size ∧ xs.length ≤ c ∧ c ≤ maxLen := by
  rcases h.2 with ⟨h1, -⟩ | ⟨g, cap, cur, hv, hbg, hg, h1, h2, h3, h4⟩
  · exact (h0 h1).elim
  · exact ⟨g, cap, hv, hbg, (Array.getElem?_eq_some_iff.1 hg).1, h1, h2⟩
theorem ins_small {α : Type} {T D : List α} {x : α} {k n : Nat} (h1 : T.length = k) (h2 : D.length = n - k) (h3 : k ≤ n) (h4 : n ≤ 2097152) : (T ++ [x]).length + D.length ≤ 4194304 := by simp; omega
theorem ins_small1 {α : Type} {T : List α} {x : α} {k n : Nat} (h1 : T.length = k) (h3 : k ≤ n) (h4 : n ≤ 2097152) : T.length + [x].length ≤ 4194304 := by simp; omega
theorem ins_small0 {α : Type} {T : List α} {k n : Nat} (h1 : T.length = k) (h3 : k ≤ n) (h4 : n ≤ 2097152) : ([] : List α).length + T.length ≤ 4194304 := by simp; omega
theorem below_allocI {wt w : World} (h : Below wt.heap.size wt w) (o : Obj) : Below wt.heap.size wt (w.alloc o) := h.alloc h.size o
theorem cell_allocI {w : World} {p : Addr} {v : Value} (h : w.cell? p = some v) (o : Obj) : (w.alloc o).cell? p = some v := cell_keep ((Below.refl _ _).alloc (Nat.le_refl _) o) h
theorem cell_drewI {w : World} {p : Addr} {v : Value} (h : w.cell? p = some v) : w.drew.cell? p = some v := h
theorem cell_newI (w : World) (v : Value) (T : TypeId) : (w.alloc (.cells #[v] T)).cell? ⟨w.heap.size, 0, none⟩ = some v := by simp [go_sem]
theorem news_one {w : World} {p : Addr} {v : Value} {α : Type} {vals : α → List Value} {x : α} (hx : vals x = [v]) (h : w.cell? p = some v) : ∀ j u, ([x].flatMap vals)[j]? = some u → w.cell? (p.add j) = some u := by
  intro j u hu
  rw [List.flatMap_singleton, hx] at hu
  match j, hu with
  | 0, hu => simp at hu; subst hu; simpa [Addr.add] using h
end Go.Proofs.Ytdmeinfdldiegaa
