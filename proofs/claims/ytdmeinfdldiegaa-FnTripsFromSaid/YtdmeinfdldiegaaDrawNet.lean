/- What the reference's draw of a network answers. No condition. -/
import Derived.Test.YtdmeinfdldiegaaDrawLeg
import Derived.Test.YtdmeinfdldiegaaRecLeg
import Derived.Deep.RegionWith
import Derived.Deep.RegionHeld3
import Derived.IntWalk
import Derived.Maps.AppendAt
import Derived.Deep.DeepCutAuto
namespace Go.Proofs.Ytdmeinfdldiegaa
open Go.RowKit Go.PlainAid
set_option maxRecDepth 100000
set_option linter.unusedVariables false
theorem info_LegD : (Try.prog.info? 47).map (fun i => (i.zero, i.size, i.bytes)) = some (some (.agg #[.string ⟨#[]⟩, .string ⟨#[]⟩, .int .i64 0, .int .i64 0, .int .i64 0, .int .i64 0]), 6, 64) := by kernel_rfl
theorem own_leg {w : World} {base : Nat} {v : Value} {xs : List LegD} {f t : ByteArray} {a b c d : Int} (h : w.ownsRow base 47 6 v (xs.length + 1) (xs.flatMap LegD.vals ++ [.string f, .string t, .int .i64 a, .int .i64 b, .int .i64 c, .int .i64 d])) : Own w base 47 6 LegD.vals v (xs ++ [⟨f, t, a, b, c, d⟩]) := by
  unfold Own
  rw [List.length_append, List.flatMap_append]
  exact h
theorem Own.savedN {α : Type} {w w' : World} {base size C : Nat} {e : TypeId} {vals : α → List Value} {v : Value} {xs : List α} (h : Own w base e size vals v xs) (hC : C < base) (s : Saves C w w') : Own w' base e size vals v xs := by
  refine ⟨h.1, ?_⟩
  rcases h.2 with h0 | ⟨g, cap, cur, hv, hbg, hg, r⟩
  · exact .inl h0
  · exact .inr ⟨g, cap, cur, hv, hbg, by rw [s.block g (Array.getElem?_eq_some_iff.1 hg).1 (by omega)]; exact hg, r⟩
theorem own_blockN {α : Type} {w : World} {base size b off n c : Nat} {e : TypeId} {vals : α → List Value} {xs : List α} (h : Own w base e size vals (.slice (some ⟨b, off, none⟩) n c) xs) : base ≤ b := by
  rcases h.2 with ⟨e, -⟩ | ⟨g, cap, cur, hv, hb, -⟩
  · cases e
  · injection hv with e1; injection e1 with e1; injection e1 with e1; omega
theorem own_setN {α : Type} {w : World} {base size : Nat} {e : TypeId} {vals : α → List Value} {v : Value} {xs : List α} {p : Addr} (h : Own w base e size vals v xs) (hp : p.block < base) (u : Value) : Own (w.setCell p u) base e size vals v xs :=
  ownsRow_setCell_below h hp u
theorem own_farN {α : Type} {w : World} {base size : Nat} {e : TypeId} {vals : α → List Value} {v : Value} {xs : List α} {p : Addr} (h : Own w base e size vals v xs) (hne : ∀ b n c, v = .slice (some ⟨b, 0, none⟩) n c → b ≠ p.block) (u : Value) : Own (w.setCell p u) base e size vals v xs := by
  refine ⟨h.1, ?_⟩
  rcases h.2 with h0 | ⟨g, cap, cur, hv, hbg, hg, r⟩
  · exact .inl h0
  · exact .inr ⟨g, cap, cur, hv, hbg, by rw [Below.heap_setCell _ _ _ _ (hne g _ _ hv)]; exact hg, r⟩
def LegsOk (xs : List LegD) : Prop := ∀ x ∈ xs, x.small
theorem LegsOk.snoc {xs : List LegD} {x : LegD} (h : LegsOk xs) (k : x.small) : LegsOk (xs ++ [x]) := fun y hy => by
  rcases List.mem_append.1 hy with h' | h'
  · exact h y h'
  · rw [List.mem_singleton.1 h']; exact k
/-- Two slices in blocks of their own. -/
def ApartV (u v : Value) : Prop := ∀ b n c b' n' c', u = .slice (some ⟨b, 0, none⟩) n c → v = .slice (some ⟨b', 0, none⟩) n' c' → b ≠ b'
def NetAt (C : Nat) (w wr : World) (g : Nat) (ch : Int) (k : Nat) : Prop := ∃ (lv : Value) (legs : List LegD), Box wr g 31 #[lv, .slice none 0 0, .int .i64 ch] ∧ Own wr (g + 1) 47 6 LegD.vals lv legs ∧ LegsOk legs ∧ 1 ≤ legs.length + k ∧ legs.length + 2 * k ≤ 12 ∧ Box wr w.heap.size 31 #[.slice none 0 0, .slice none 0 0, .int .i64 0] ∧ Cur C wr ∧ Saves C w wr
/-- A drawn network. -/
def NetP (C : Nat) (w : World) (e : Ending) (w' : World) : Prop := ∃ (lv ov : Value) (legs : List LegD) (off : List Int) (ch : Int), e = .returned (.agg #[lv, ov, .int .i64 ch]) ∧ Own w' w.heap.size 47 6 LegD.vals lv legs ∧ LegsOk legs ∧ 1 ≤ legs.length ∧ legs.length ≤ 12 ∧
  Own w' w.heap.size 3 1 vI ov off ∧ (∀ x ∈ off, 0 ≤ x ∧ x ≤ 6) ∧ off.length ≤ 2 ∧ (0 ≤ ch ∧ ch ≤ 120) ∧ ApartV lv ov ∧ Cur C w' ∧ Saves C w w'
theorem net_end {C : Nat} {w wv : World} {lv ov : Value} {legs : List LegD} {off : List Int} {ch : Int} (hl : Own wv (w.heap.size + 1) 47 6 LegD.vals lv legs) (hk : LegsOk legs) (h1 : 1 ≤ legs.length) (h2 : legs.length ≤ 12) (ho : Own wv (w.heap.size + 1) 3 1 vI ov off) (ok : ∀ x ∈ off, 0 ≤ x ∧ x ≤ 6) (h3 : off.length ≤ 2) (hch : 0 ≤ ch ∧ ch ≤ 120)
    (ha : ApartV lv ov) (hC : Cur C wv) (hS : Saves C w wv) (lt : C < w.heap.size) :
    NetP C w (.returned (.agg #[lv, ov, .int .i64 ch])) (((wv.setCell ⟨w.heap.size, 0, none⟩ lv).setCell ⟨w.heap.size, 1, none⟩ ov).setCell ⟨w.heap.size, 2, none⟩ (.int .i64 ch)) := by
  refine ⟨lv, ov, legs, off, ch, rfl, ?_, hk, h1, h2, ?_, ok, h3, hch, ha, ?_, ?_⟩
  · exact (own_setN (own_setN (own_setN hl (by simp only; omega) _) (by simp only; omega) _) (by simp only; omega) _).mono (by omega)
  · exact (own_setN (own_setN (own_setN ho (by simp only; omega) _) (by simp only; omega) _) (by simp only; omega) _).mono (by omega)
  · exact ((hC.setB (by simp only; omega) _).setB (by simp only; omega) _).setB (by simp only; omega) _
  · exact ((hS.setNew (by simp only; omega) _).setNew (by simp only; omega) _).setNew (by simp only; omega) _
theorem LegD.small.turn {f t : ByteArray} {a b c d s : Int} (h : (LegD.mk f t a b c d).small) (h0 : 0 ≤ s) (h1 : s ≤ 1439) : (LegD.mk t f s b c d).small := ⟨h.2.1, h.1, ⟨h0, h1⟩, h.2.2.2⟩
theorem own_two {w : World} {base g : Nat} {x y : Int} (hg : w.heap[g]? = some (.cells #[.int .i64 x, .int .i64 y] 3 (0, 0))) (hb : base ≤ g) : Own w base 3 1 vI (.slice (some ⟨g, 0, none⟩) 2 2) [x, y] :=
  ⟨rfl, .inr ⟨g, 2, _, rfl, hb, hg, Nat.le_refl 2, by unfold maxLen; omega, rfl, rfl⟩⟩
set_option maxHeartbeats 12800000 in
theorem net_any (C : Nat) (w : World) (hc : Cur C w) : Calls Try.prog 40 #[.pointer (some ⟨C, 0, none⟩), .int .i64 6] w (NetP C w) := by
  have lt := hc.lt
  obtain ⟨i0, hi, hz0, hz1, hz2⟩ := info_parts info_LegD
  go_enter Try.func40, Try.ntmps40
  go_wp2_with fail
  obtain ⟨W, hW⟩ : ∃ W, W = w.alloc (.cells #[.slice none 0 0, .slice none 0 0, .int .i64 0] 31) := ⟨_, rfl⟩
  rw [← hW]
  have P : Box W w.heap.size 31 #[.slice none 0 0, .slice none 0 0, .int .i64 0] := by rw [hW]; exact Box.new _ _ _
  have bW : Below w.heap.size w W := by rw [hW]; go_grown
  clear hW
  have S0 : Saves C w W := Saves.of_below bW
  refine (below_any C 9 _ (hc.keep bW) (by unfold okI; omega)).mono ?_
  rintro e w1 ⟨x9, rfl, x0, x1, x2, c1, s1⟩
  have x3 := x2 (by omega)
  replace P := P.saves s1 (by omega)
  have S1 := S0.trans s1
  clear x1 x2
  go_wp2_with fail
  obtain ⟨ch, hch⟩ : ∃ ch, ch = 15 * x9 := ⟨_, rfl⟩
  rw [← hch]
  have ch0 : 0 ≤ ch := by omega
  have ch1 : ch ≤ 120 := by omega
  clear hch
  obtain ⟨V, hV⟩ : ∃ V, V = w1.alloc (.cells #[.slice none 0 0, .slice none 0 0, .int .i64 ch] 31) := ⟨_, rfl⟩
  rw [← hV]
  obtain ⟨g, hg⟩ : ∃ g, g = w1.heap.size := ⟨_, rfl⟩
  rw [← hg]
  have Q : Box V g 31 #[.slice none 0 0, .slice none 0 0, .int .i64 ch] := by rw [hV, hg]; exact Box.new _ _ _
  have bV : Below w1.heap.size w1 V := by rw [hV]; go_grown
  have lP1 := P.lt
  have gP : w.heap.size < g := by omega
  have gC : C < g := by omega
  replace P := P.keep bV
  have SV := S1.trans (Saves.of_below bV)
  have cV := c1.keep bV
  clear hV bV hg lP1 c1 s1 S0 S1 bW
  refine (belowN_at (w0 := w) 6 (by omega) (by omega) cV SV).mono ?_
  rintro e w2 ⟨k0, rfl, hk0, c2, S2, s2⟩
  replace P := P.saves s2 (by omega)
  replace Q := Q.saves s2 (by omega)
  clear cV SV s2
  go_wp2_with fail
  go_loopw [6] (fun kv wr => ∃ k : Nat, kv = .int .i64 k ∧ NetAt C w wr g ch k) (fun kv _ => (intOf kv).toNat)
  case atStart => exact ⟨1 + k0, by go_num, .slice none 0 0, [], Q, Own.nil_ _ _ _ _ _, fun x hx => by simp at hx, by omega, by simp only [List.length_nil]; omega, P, c2, S2⟩
  case round =>
    clear Q P c2 S2
    obtain ⟨k, rfl, lv, legs, Q, hO, hL, h1k, h2k, P, hC, hS⟩ := hrel
    obtain ⟨wo, rfl⟩ : ∃ wo : World, wo = wr := ⟨_, rfl⟩
    by_cases hk : 0 < k
    · have hk' : (0 : Int) < (k : Int) := by omega
      go_wp2_with fail
      obtain ⟨A, cp, rfl, hl1, hl2⟩ := hO.form
      unfold maxLen at hl2
      refine (leg_any C _ hC).mono ?_
      rintro e w3 ⟨f, t, a, b, c, d, rfl, hx, c3, s3⟩
      replace P := P.saves s3 (by omega)
      replace Q := Q.saves s3 (by omega)
      have O3 := hO.savedN (by omega) s3
      have S3 := hS.trans s3
      have lg := Q.lt
      clear hO hS hC s3
      have HX := Lib.hid hx; clear hx
      have q0 : w3.cell? ⟨g, 0, none⟩ = some (.slice A legs.length cp) := Q.cell 0
      have qf : ∀ j, w3.frozen? ⟨g, j, none⟩ = false := fun j => Q.frozen j
      have bL1 : Below w3.heap.size w3 ((w3.alloc (.cells #[.string f, .string t, .int .i64 a, .int .i64 b, .int .i64 c, .int .i64 d] 47)).alloc (.cells #[.string f, .string t, .int .i64 a, .int .i64 b, .int .i64 c, .int .i64 d] 47)) := by go_grown
      have L : Box ((w3.alloc (.cells #[.string f, .string t, .int .i64 a, .int .i64 b, .int .i64 c, .int .i64 d] 47)).alloc (.cells #[.string f, .string t, .int .i64 a, .int .i64 b, .int .i64 c, .int .i64 d] 47)) w3.heap.size 47 #[.string f, .string t, .int .i64 a, .int .i64 b, .int .i64 c, .int .i64 d] := (Box.new _ _ _).alloc _
      go_wp2_with (at_builtin; refine wpList_append_own_at _ rfl (.tmp 23) (.tmp 25) 29 rfl (g + 1) 47 i0 (.agg #[.string ⟨#[]⟩, .string ⟨#[]⟩, .int .i64 0, .int .i64 0, .int .i64 0, .int .i64 0]) 6 64 Try.underlying29 hi hz0 hz1 hz2 rfl (by decide) _ _ _ rfl (World.ownsRow.alloc (World.ownsRow.alloc O3 _) _) _ 1 1 [.string f, .string t, .int .i64 a, .int .i64 b, .int .i64 c, .int .i64 d] rfl rfl ?c1a ?c2a ?c3a ?c4a ?c5a ?_)
      try (case c1a =>
        intro j u hj
        match j, hj with
        | 0, hj => simp at hj; subst hj; simp [go_sem, Addr.add]
        | 1, hj => simp at hj; subst hj; simp [go_sem, Addr.add]
        | 2, hj => simp at hj; subst hj; simp [go_sem, Addr.add]
        | 3, hj => simp at hj; subst hj; simp [go_sem, Addr.add]
        | 4, hj => simp at hj; subst hj; simp [go_sem, Addr.add]
        | 5, hj => simp at hj; subst hj; simp [go_sem, Addr.add])
      case c2a => first | (intro u hu; simp at hu; rcases hu with rfl | rfl | rfl | rfl | rfl | rfl <;> rfl) | exact ⟨rfl, rfl, rfl, rfl, rfl, rfl⟩
      case c3a => first | (unfold maxLen; omega) | omega
      case c4a => omega
      case c5a => simp; omega
      intro v' w7 hown' hgrow _ hat
      have B7 : Below (g + 1) w3 w7 := (((Below.refl (g + 1) w3).alloc (by omega) _).alloc (by simp; omega) _).grown hgrow (by simp; omega) (fun g' q => (World.ownsRow.lt O3 g' q).1)
      have o7 : Own w7 (g + 1) 47 6 LegD.vals v' (legs ++ [⟨f, t, a, b, c, d⟩]) := own_leg hown'
      replace L := L.grown hgrow (fun e => by have := (World.ownsRow.lt O3 _ e.symm).2; omega)
      obtain ⟨g2, hg2⟩ : ∃ g2, g2 = w3.heap.size := ⟨_, rfl⟩
      rw [← hg2] at L ⊢
      have hgg : g < g2 := by omega
      replace Q := Q.keepB B7 (by omega)
      replace P := P.keepB B7 (by omega)
      have c7 := c3.keepB B7 (by omega)
      have S7 := S3.belowR B7 (by omega)
      have hnot : Hid (v'.ownBlock ≠ some g2) := Lib.hid (fun e => by
        rcases hat with h | h
        · have := (World.ownsRow.lt O3 g2 (h.symm.trans e)).2; omega
        · rw [h] at e; injection e with e; (try simp at e); omega)
      clear hown' hgrow B7 O3 S3 c3 q0 qf bL1 lg hat
      have HG2 := Lib.hid hg2; clear hg2
      have q0 : w7.cell? ⟨g, 0, none⟩ = some (.slice A legs.length cp) := Q.cell 0
      have qf : ∀ j, w7.frozen? ⟨g, j, none⟩ = false := fun j => Q.frozen j
      obtain ⟨A', cp', rfl, hl1', hl2'⟩ := o7.form
      unfold maxLen at hl2'
      have hlen : (legs ++ [LegD.mk f t a b c d]).length = legs.length + 1 := by simp
      rw [hlen] at o7 hl1' hnot ⊢
      clear hlen
      go_wp2_with fail
      clear q0 qf
      obtain ⟨w8, hw8⟩ : ∃ X, X = w7.setCell ⟨g, 0, none⟩ (.slice A' (legs.length + 1) cp') := ⟨_, rfl⟩
      rw [← hw8]
      replace Q : Box w8 g 31 #[.slice A' (legs.length + 1) cp', .slice none 0 0, .int .i64 ch] := by rw [hw8]; exact Q.set 0 _
      replace P : Box w8 w.heap.size 31 #[.slice none 0 0, .slice none 0 0, .int .i64 0] := by rw [hw8]; exact P.far (by simp only; omega) _
      replace L : Box w8 g2 47 #[.string f, .string t, .int .i64 a, .int .i64 b, .int .i64 c, .int .i64 d] := by rw [hw8]; exact L.far (by simp only; omega) _
      have o8 : Own w8 (g + 1) 47 6 LegD.vals (.slice A' (legs.length + 1) cp') (legs ++ [⟨f, t, a, b, c, d⟩]) := by rw [hw8]; exact own_setN o7 (by simp only; omega) _
      have c8 : Cur C w8 := by rw [hw8]; exact c7.setB (by simp only; omega) _
      have S8 : Saves C w w8 := by rw [hw8]; exact S7.setNew (by simp only; omega) _
      clear hw8 o7 c7 S7
      refine (once_any C 3 _ c8 (by unfold okI; omega)).mono ?_
      rintro e w9 ⟨u, rfl, c9, s9⟩
      replace P := P.saves s9 (by omega)
      replace Q := Q.saves s9 (by omega)
      replace L := L.saves s9 (by omega)
      have o9 := o8.savedN (by omega) s9
      have S9 := S8.trans s9
      clear o8 c8 S8 s9
      have lok := hL.snoc HX.out
      cases u
      · skip
        go_wp2_with fail
        go_roundw
        case rel => exact ⟨k - 1, by congr 1; omega, _, legs ++ [⟨f, t, a, b, c, d⟩], Q, o9, lok, by simp; omega, by simp; omega, P, c9, S9⟩
        case measure => simp [intOf]; omega
      by_cases h6 : legs.length + 1 < 6
      rotate_left
      · have h6' : ¬ ((legs.length + 1 : Nat) : Int) < 6 := by omega
        have q0 : w9.cell? ⟨g, 0, none⟩ = some (.slice A' (legs.length + 1) cp') := Q.cell 0
        go_wp2_with fail
        go_roundw
        case rel => exact ⟨k - 1, by congr 1; omega, _, legs ++ [⟨f, t, a, b, c, d⟩], Q, o9, lok, by simp; omega, by simp; omega, P, c9, S9⟩
        case measure => simp [intOf]; omega
      have h6' : ((legs.length + 1 : Nat) : Int) < 6 := by omega
      obtain ⟨b_, off, y, rfl, hb_, hy, hcl⟩ := (o9.slice Leg_len (by omega)).cells (k := legs.length) (by simp)
      obtain rfl : y = ⟨f, t, a, b, c, d⟩ := by have := hy.out; simp at this; exact this.symm
      have d0 := hcl 0 _ rfl
      have d1 := hcl 1 _ rfl
      simp only [Nat.add_zero] at d0
      clear hcl hy
      have gb : g < b_ := own_blockN o9
      have nbC : b_ ≠ C := by omega
      obtain ⟨m, hm⟩ : ∃ m, m = legs.length := ⟨_, rfl⟩
      rw [← hm] at Q o9 d0 d1 h6 h6' hl1' ⊢
      have HM := Lib.hid hm; clear hm
      have bg2 : b_ ≠ g2 := fun e => hnot.out (by rw [e]; rfl)
      clear hnot
      have q0 : w9.cell? ⟨g, 0, none⟩ = some (.slice (some ⟨b_, off, none⟩) (m + 1) cp') := Q.cell 0
      have qf : ∀ j, w9.frozen? ⟨g, j, none⟩ = false := fun j => Q.frozen j
      have l0 : w9.cell? ⟨g2, 0, none⟩ = some (.string f) := L.cell 0
      have l1 : w9.cell? ⟨g2, 1, none⟩ = some (.string t) := L.cell 1
      have l2 : w9.cell? ⟨g2, 2, none⟩ = some (.int .i64 a) := L.cell 2
      have l3 : w9.cell? ⟨g2, 3, none⟩ = some (.int .i64 b) := L.cell 3
      have l4 : w9.cell? ⟨g2, 4, none⟩ = some (.int .i64 c) := L.cell 4
      have l5 : w9.cell? ⟨g2, 5, none⟩ = some (.int .i64 d) := L.cell 5
      have lf : ∀ j, w9.frozen? ⟨g2, j, none⟩ = false := fun j => L.frozen j
      have wm : IntKind.i64.wrap (m : Int) = (m : Int) := IntWalk.i64_in _ (by omega)
      have hm0 : (0 : Int) ≤ (m : Int) := by omega
      have hm1 : (m : Int) < ((m + 1 : Nat) : Int) := by omega
      have ng1 : ¬ g = g2 := by omega
      have ng2 : ¬ g2 = g := by omega
      have nb1 : ¬ b_ = g2 := bg2
      have nb2 : ¬ g2 = b_ := fun e => bg2 e.symm
      go_wp2_with fail
      obtain ⟨w10, hY⟩ : ∃ X, X = (w9.setCell ⟨g2, 0, none⟩ (.string t)).setCell ⟨g2, 1, none⟩ (.string f) := ⟨_, rfl⟩
      rw [← hY]
      clear q0 qf l0 l1 l2 l3 l4 l5 lf d0 d1
      replace Q : Box w10 g 31 #[.slice (some ⟨b_, off, none⟩) (m + 1) cp', .slice none 0 0, .int .i64 ch] := by rw [hY]; exact (Q.far (by simp only; omega) _).far (by simp only; omega) _
      replace P : Box w10 w.heap.size 31 #[.slice none 0 0, .slice none 0 0, .int .i64 0] := by rw [hY]; exact (P.far (by simp only; omega) _).far (by simp only; omega) _
      replace L : Box w10 g2 47 #[.string t, .string f, .int .i64 a, .int .i64 b, .int .i64 c, .int .i64 d] := by rw [hY]; exact (L.set 0 _).set 1 _
      have o10 : Own w10 (g + 1) 47 6 LegD.vals (.slice (some ⟨b_, off, none⟩) (m + 1) cp') (legs ++ [⟨f, t, a, b, c, d⟩]) := by
        rw [hY]
        refine own_farN (own_farN o9 ?_ _) ?_ _ <;> (intro b2 n2 c2 e2; injection e2 with e3; injection e3 with e3; injection e3 with e3 e4; simp only; omega)
      have c10 : Cur C w10 := by rw [hY]; exact (c9.setB (by simp only; omega) _).setB (by simp only; omega) _
      have S10 : Saves C w w10 := by rw [hY]; exact (S9.setNew (by simp only; omega) _).setNew (by simp only; omega) _
      clear hY o9 c9 S9
      obtain ⟨st0, st1⟩ := HX.out.2.2.1
      simp only at st0 st1
      have l2 : w10.cell? ⟨g2, 2, none⟩ = some (.int .i64 a) := L.cell 2
      have lf2 : w10.frozen? ⟨g2, 2, none⟩ = false := L.frozen 2
      have lg2 : g2 < w10.heap.size := L.lt
      have n2C : g2 ≠ C := by omega
      go_region_with (go_at_call 45; refine (belowN_at (w0 := w) 20 (by omega) (by omega) (curN_drew c10) S10.drew).mono ?_; rintro e w11 ⟨r, rfl, hr, c11, S11, s11⟩; have m2 := Saves.at' s11 l2 n2C; have mf := (s11.frozen (p := ⟨g2, 2, none⟩) lg2 n2C).trans lf2; have wr1 : IntKind.i64.wrap (60 * (r : Int)) = 60 * (r : Int) := IntWalk.i64_in _ (by omega); have wr2 : IntKind.i64.wrap (a + 60 * (r : Int)) = a + 60 * (r : Int) := IntWalk.i64_in _ (by omega))
      all_goals
        have Q11 : Box w11 g 31 _ := Box.saves (Q.drew) s11 (by omega)
        have P11 : Box w11 w.heap.size 31 _ := Box.saves (P.drew) s11 (by omega)
        have L11 : Box w11 g2 47 _ := Box.saves (L.drew) s11 (by omega)
        have o11 := Own.savedN (show Own w10.drew (g + 1) 47 6 LegD.vals (.slice (some ⟨b_, off, none⟩) (m + 1) cp') (legs ++ [⟨f, t, a, b, c, d⟩]) from o10) (by omega) s11
        have ha := own_farN (p := ⟨g2, 2, none⟩) o11 (fun b2 n2 c2 e2 => by injection e2 with e3; injection e3 with e3; injection e3 with e3 e4; simp only; omega) (.int .i64 ((a + 60 * (r : Int)) % 1440))
        have q0 : w11.cell? ⟨g, 0, none⟩ = some (.slice (some ⟨b_, off, none⟩) (m + 1) cp') := Q11.cell 0
        have qf : ∀ j, w11.frozen? ⟨g, j, none⟩ = false := fun j => Q11.frozen j
        have l0 : w11.cell? ⟨g2, 0, none⟩ = some (.string t) := L11.cell 0
        have l1 : w11.cell? ⟨g2, 1, none⟩ = some (.string f) := L11.cell 1
        have l2 : w11.cell? ⟨g2, 2, none⟩ = some (.int .i64 a) := L11.cell 2
        have l3 : w11.cell? ⟨g2, 3, none⟩ = some (.int .i64 b) := L11.cell 3
        have l4 : w11.cell? ⟨g2, 4, none⟩ = some (.int .i64 c) := L11.cell 4
        have l5 : w11.cell? ⟨g2, 5, none⟩ = some (.int .i64 d) := L11.cell 5
        have lf : ∀ j, w11.frozen? ⟨g2, j, none⟩ = false := fun j => L11.frozen j
        have lg := Q11.lt
        have lenm : (legs ++ [LegD.mk f t a b c d]).length ≤ 13 := by have := HM.out; simp; omega
        have s0 : 0 ≤ (a + 60 * (r : Int)) % 1440 := Int.emod_nonneg _ (by omega)
        have s1 : (a + 60 * (r : Int)) % 1440 ≤ 1439 := by have := Int.emod_lt_of_pos (a + 60 * (r : Int)) (show (0 : Int) < 1440 by omega); omega
        have HY := Lib.hid (LegD.small.turn HX.out s0 s1)
        clear s0 s1 wr1 wr2 m2 mf
        go_wp2_with (at_builtin; refine wpList_append_own_at _ rfl (.tmp 66) (.tmp 68) 29 rfl (g + 1) 47 i0 (.agg #[.string ⟨#[]⟩, .string ⟨#[]⟩, .int .i64 0, .int .i64 0, .int .i64 0, .int .i64 0]) 6 64 Try.underlying29 hi hz0 hz1 hz2 rfl (by decide) _ _ _ rfl (World.ownsRow.alloc ha _) _ 1 1 [.string t, .string f, .int .i64 ((a + 60 * (r : Int)) % 1440), .int .i64 b, .int .i64 c, .int .i64 d] rfl rfl ?c1b ?c2b ?c3b ?c4b ?c5b ?_)
        try (case c1b =>
          intro j u hj
          match j, hj with
          | 0, hj => simp at hj; subst hj; simp [go_sem, Addr.add]
          | 1, hj => simp at hj; subst hj; simp [go_sem, Addr.add]
          | 2, hj => simp at hj; subst hj; simp [go_sem, Addr.add]
          | 3, hj => simp at hj; subst hj; simp [go_sem, Addr.add]
          | 4, hj => simp at hj; subst hj; simp [go_sem, Addr.add]
          | 5, hj => simp at hj; subst hj; simp [go_sem, Addr.add])
        case c2b => first | (intro u hu; simp at hu; rcases hu with rfl | rfl | rfl | rfl | rfl | rfl <;> rfl) | exact ⟨rfl, rfl, rfl, rfl, rfl, rfl⟩
        case c3b => first | (unfold maxLen; omega) | omega
        case c4b => omega
        case c5b => simp; omega
        intro v' w7 hown' hgrow _ hat
        have B7 : Below (g + 1) (w11.setCell ⟨g2, 2, none⟩ (.int .i64 ((a + 60 * (r : Int)) % 1440))) w7 := ((Below.refl (g + 1) _).alloc (by simp; omega) _).grown hgrow (by simp; omega) (fun g' q => (World.ownsRow.lt ha g' q).1)
        have o7 : Own w7 (g + 1) 47 6 LegD.vals v' (legs ++ [⟨f, t, a, b, c, d⟩] ++ [⟨t, f, (a + 60 * (r : Int)) % 1440, b, c, d⟩]) := by first | exact own_leg hown' | (unfold Own; simpa [LegD.vals] using hown')
        have Q7 := (Q11.far (p := ⟨g2, 2, none⟩) (by simp only; omega) (.int .i64 ((a + 60 * (r : Int)) % 1440))).keepB B7 (by omega)
        have P7 := (P11.far (p := ⟨g2, 2, none⟩) (by simp only; omega) (.int .i64 ((a + 60 * (r : Int)) % 1440))).keepB B7 (by omega)
        have c7 := (c11.setB (p := ⟨g2, 2, none⟩) (by simp only; omega) (.int .i64 ((a + 60 * (r : Int)) % 1440))).keepB B7 (by omega)
        have S7 := (S11.setNew (p := ⟨g2, 2, none⟩) (by simp only; omega) (.int .i64 ((a + 60 * (r : Int)) % 1440))).belowR B7 (by omega)
        clear hown' hgrow hat B7 q0 qf l0 l1 l2 l3 l4 l5 lf
        obtain ⟨A2, cp2, rfl, -, -⟩ := o7.form
        have hlen2 : (legs ++ [LegD.mk f t a b c d] ++ [LegD.mk t f ((a + 60 * (r : Int)) % 1440) b c d]).length = legs.length + 2 := by simp
        rw [hlen2] at o7 ⊢
        clear hlen2
        have q0 : w7.cell? ⟨g, 0, none⟩ = some (.slice (some ⟨b_, off, none⟩) (m + 1) cp') := Q7.cell 0
        have qf : ∀ j, w7.frozen? ⟨g, j, none⟩ = false := fun j => Q7.frozen j
        go_wp2_with fail
        go_roundw
        case rel => exact ⟨k - 1, by congr 1; omega, _, _, Q7.set 0 _, own_setN o7 (show g < g + 1 by omega) _, lok.snoc HY.out, by have := HM.out; (try simp); omega, by have := HM.out; (try simp); omega, P7.far (by simp only; omega) _, c7.setB (by simp only; omega) _, S7.setNew (by simp only; omega) _⟩
        case measure => simp [intOf]; omega
    · have hk' : ¬ (0 : Int) < (k : Int) := by omega
      obtain rfl : k = 0 := by omega
      have n1 : 1 ≤ legs.length := by omega
      have n2 : legs.length ≤ 12 := by omega
      clear h1k h2k
      have nPg : ¬ w.heap.size = g := by omega
      have ngP : ¬ g = w.heap.size := by omega
      have hO1 := Lib.hid hO
      have hag : ∀ b n c, lv = .slice (some ⟨b, 0, none⟩) n c → b < wo.heap.size := fun b n c e => by subst e; exact (World.ownsRow.lt hO b rfl).2
      obtain ⟨A, cp, rfl, hl1, hl2⟩ := hO.form
      clear hO
      go_wp2_with fail
      refine (once_any C 2 _ hC (by unfold okI; omega)).mono ?_
      rintro e w3 ⟨u, rfl, c3, s3⟩
      replace P := P.saves s3 (by omega)
      replace Q := Q.saves s3 (by omega)
      have O3 := hO1.out.savedN (by omega) s3
      have S3 := hS.trans s3
      have z3 := s3.size
      clear hO1 hC hS s3
      cases u
      · skip
        have p0 : w3.cell? ⟨w.heap.size, 0, none⟩ = some (.slice none 0 0) := P.cell 0
        have p1 : w3.cell? ⟨w.heap.size, 1, none⟩ = some (.slice none 0 0) := P.cell 1
        have p2 : w3.cell? ⟨w.heap.size, 2, none⟩ = some (.int .i64 0) := P.cell 2
        have pf : ∀ j, w3.frozen? ⟨w.heap.size, j, none⟩ = false := fun j => P.frozen j
        have q0 : w3.cell? ⟨g, 0, none⟩ = some (.slice A legs.length cp) := Q.cell 0
        have q1 : w3.cell? ⟨g, 1, none⟩ = some (.slice none 0 0) := Q.cell 1
        have q2 : w3.cell? ⟨g, 2, none⟩ = some (.int .i64 ch) := Q.cell 2
        have HE := Lib.hid (net_end (O3.mono (by omega)) hL n1 n2 (Own.nil_ _ _ _ _ _) (fun x hx => by simp at hx) (by simp) ⟨ch0, ch1⟩ (fun b n c b' n' c' e1 e2 => by cases e2) c3 S3 lt)
        clear c3 S3 O3
        go_wp2_with fail
        refine bodyPost_ret (v := .agg #[.slice A legs.length cp, .slice none 0 0, .int .i64 ch]) (by simp [results, Try.results40, go_sem, p0, p1, p2]) rfl ?_
        exact HE.out
      · go_wp2_with fail
        refine (below_any C 3 _ c3 (by unfold okI; omega)).mono ?_
        rintro e w4 ⟨x, rfl, x0, x1, x2, c4, s4⟩
        have xlt := x2 (by omega)
        replace P := P.saves s4 (by omega)
        replace Q := Q.saves s4 (by omega)
        have O4 := O3.savedN (by omega) s4
        have S4 := S3.trans s4
        have z4 := s4.size
        clear x1 x2 s4 c3 S3 O3
        go_wp2_with fail
        refine (below_any C 4 _ c4 (by unfold okI; omega)).mono ?_
        rintro e w5 ⟨y, rfl, y0, y1, y2, c5, s5⟩
        have ylt := y2 (by omega)
        replace P := P.saves s5 (by omega)
        replace Q := Q.saves s5 (by omega)
        have O5 := O4.savedN (by omega) s5
        have S5 := S4.trans s5
        have z5 := s5.size
        clear y1 y2 s5 c4 S4 O4
        have q1 : w5.cell? ⟨g, 1, none⟩ = some (.slice none 0 0) := Q.cell 1
        have qf : ∀ j, w5.frozen? ⟨g, j, none⟩ = false := fun j => Q.frozen j
        have lg := Q.lt
        have lP := P.lt
        have nP5 : ¬ w.heap.size = w5.heap.size := by omega
        have ng5 : ¬ g = w5.heap.size := by omega
        have p0 : w5.cell? ⟨w.heap.size, 0, none⟩ = some (.slice none 0 0) := P.cell 0
        have p1 : w5.cell? ⟨w.heap.size, 1, none⟩ = some (.slice none 0 0) := P.cell 1
        have p2 : w5.cell? ⟨w.heap.size, 2, none⟩ = some (.int .i64 0) := P.cell 2
        have pf : ∀ j, w5.frozen? ⟨w.heap.size, j, none⟩ = false := fun j => P.frozen j
        have q0 : w5.cell? ⟨g, 0, none⟩ = some (.slice A legs.length cp) := Q.cell 0
        have q2 : w5.cell? ⟨g, 2, none⟩ = some (.int .i64 ch) := Q.cell 2
        go_upto_region 14 with fail
        obtain ⟨X, hX⟩ : ∃ X, X = (w5.setCell ⟨g, 1, none⟩ (.slice (some ⟨w5.heap.size, 0, none⟩) 2 2)).alloc (.cells #[.int .i64 x, .int .i64 (3 + y)] 3) := ⟨_, rfl⟩
        rw [← hX]
        obtain ⟨go, hgo⟩ : ∃ go, go = w5.heap.size := ⟨_, rfl⟩
        rw [← hgo] at hX ⊢
        have bA : Below (w5.setCell ⟨g, 1, none⟩ (.slice (some ⟨go, 0, none⟩) 2 2)).heap.size (w5.setCell ⟨g, 1, none⟩ (.slice (some ⟨go, 0, none⟩) 2 2)) X := by rw [hX]; exact (Below.refl _ _).alloc (Nat.le_refl _) _
        replace Q : Box X g 31 #[.slice A legs.length cp, .slice (some ⟨go, 0, none⟩) 2 2, .int .i64 ch] := by rw [hX]; exact (Q.set 1 _).alloc _
        replace P : Box X w.heap.size 31 #[.slice none 0 0, .slice none 0 0, .int .i64 0] := by rw [hX]; exact (P.far (by simp only; omega) _).alloc _
        have O6 : Own X (w.heap.size + 1) 47 6 LegD.vals (.slice A legs.length cp) legs := ((own_setN (p := ⟨g, 1, none⟩) O5 (show g < g + 1 by omega) (.slice (some ⟨go, 0, none⟩) 2 2)).mono (base' := w.heap.size + 1) (by omega)).keep bA (Nat.le_refl _)
        have F6 : Own X (w.heap.size + 1) 3 1 vI (.slice (some ⟨go, 0, none⟩) 2 2) [x, 3 + y] := own_two (by have h := Box.new (w5.setCell ⟨g, 1, none⟩ (.slice (some ⟨go, 0, none⟩) 2 2)) 3 #[.int .i64 x, .int .i64 (3 + y)]; rw [← hX, show (w5.setCell ⟨g, 1, none⟩ (.slice (some ⟨go, 0, none⟩) 2 2)).heap.size = go by rw [hgo]; simp] at h; exact h) (by omega)
        have c6 : Cur C X := (c5.setB (p := ⟨g, 1, none⟩) (by simp only; omega) (.slice (some ⟨go, 0, none⟩) 2 2)).keep bA
        have S6 : Saves C w X := (S5.setNew (p := ⟨g, 1, none⟩) (by simp only; omega) (.slice (some ⟨go, 0, none⟩) 2 2)).trans (Saves.of_below bA)
        have ap : ApartV (.slice A legs.length cp) (.slice (some ⟨go, 0, none⟩) 2 2) := fun b n c b' n' c' e1 e2 => by have := hag b n c e1; injection e2 with e3; injection e3 with e3; injection e3 with e3 e4; omega
        have okf : ∀ z ∈ [x, 3 + y], 0 ≤ z ∧ z ≤ 6 := fun z hz => by simp at hz; omega
        clear hX bA hgo c5 S5 O5 q0 q1 q2 qf p0 p1 p2 pf nP5 ng5 lg lP hag
        have p0 : X.cell? ⟨w.heap.size, 0, none⟩ = some (.slice none 0 0) := P.cell 0
        have p1 : X.cell? ⟨w.heap.size, 1, none⟩ = some (.slice none 0 0) := P.cell 1
        have p2 : X.cell? ⟨w.heap.size, 2, none⟩ = some (.int .i64 0) := P.cell 2
        have pf : ∀ j, X.frozen? ⟨w.heap.size, j, none⟩ = false := fun j => P.frozen j
        have q0 : X.cell? ⟨g, 0, none⟩ = some (.slice A legs.length cp) := Q.cell 0
        have q1 : X.cell? ⟨g, 1, none⟩ = some (.slice (some ⟨go, 0, none⟩) 2 2) := Q.cell 1
        have q2 : X.cell? ⟨g, 2, none⟩ = some (.int .i64 ch) := Q.cell 2
        have HE := Lib.hid (net_end (O6) hL n1 n2 F6 okf (by simp) ⟨ch0, ch1⟩ ap c6 S6 lt)
        clear c6 S6 O6
        go_wp2_with fail
        refine bodyPost_ret (v := .agg #[.slice A legs.length cp, .slice (some ⟨go, 0, none⟩) 2 2, .int .i64 ch]) (by simp [results, Try.results40, go_sem, p0, p1, p2]) rfl ?_
        exact HE.out
end Go.Proofs.Ytdmeinfdldiegaa
