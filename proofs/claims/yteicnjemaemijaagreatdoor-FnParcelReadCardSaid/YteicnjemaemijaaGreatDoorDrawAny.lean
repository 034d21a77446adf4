/- What the reference's draw of whatever parcel answers. No condition. -/
import Derived.Test.YteicnjemaemijaaGreatDoorDrawPar
namespace Go.Proofs.YteicnjemaemijaaGreatDoor
open Go.RowKit Go.PlainAid
set_option maxRecDepth 100000
set_option linter.unusedVariables false
theorem Tri.at_ {w : World} {g n : Nat} {x y z : Int} (h : Tri w g x y z) (hn : n < 3) : (∃ u, w.cell? ⟨g, n, none⟩ = some u) ∧ w.frozen? ⟨g, n, none⟩ = false := by
  refine ⟨?_, Box.frozen h n⟩
  rw [Box.cell h]
  rcases (show n = 0 ∨ n = 1 ∨ n = 2 by omega) with rfl | rfl | rfl <;> exact ⟨_, rfl⟩
theorem Tri.set_ {w : World} {g n : Nat} {x y z v : Int} (h : Tri w g x y z) (hn : n < 3) : ∃ x' y' z', Tri (w.setCell ⟨g, n, none⟩ (.int .i64 v)) g x' y' z' ∧ (x' = x ∨ x' = v) ∧ (y' = y ∨ y' = v) ∧ (z' = z ∨ z' = v) := by
  have hb := Box.set h n (.int .i64 v)
  rcases (show n = 0 ∨ n = 1 ∨ n = 2 by omega) with rfl | rfl | rfl
  · exact ⟨v, y, z, hb, .inr rfl, .inl rfl, .inl rfl⟩
  · exact ⟨x, v, z, hb, .inl rfl, .inr rfl, .inl rfl⟩
  · exact ⟨x, y, v, hb, .inl rfl, .inl rfl, .inr rfl⟩
theorem Tri.own {w : World} {base g : Nat} {x y z : Int} (h : Tri w g x y z) (hb : base ≤ g) : w.ownsRow base 3 1 (.slice (some ⟨g, 0, none⟩) 3 3) 3 [.int .i64 x, .int .i64 y, .int .i64 z] :=
  ⟨rfl, .inr ⟨g, 3, _, rfl, hb, h, Nat.le_refl _, by unfold maxLen; omega, rfl, rfl⟩⟩
theorem cur_alloc {C : Nat} {w : World} (h : Cur C w) (o : Obj) : Cur C (w.alloc o) := h.keep ((Below.refl _ _).alloc (Nat.le_refl _) _)
theorem cur_drew {C : Nat} {w : World} (h : Cur C w) : Cur C w.drew := h.keep (Below.refl _ _).drew
theorem saves_alloc {C : Nat} {a w : World} (h : Saves C a w) (o : Obj) : Saves C a (w.alloc o) := h.alloc o
theorem saves_drew {C : Nat} {a w : World} (h : Saves C a w) : Saves C a w.drew := h.drew
theorem Cur.ne_ {C : Nat} {w : World} (h : Cur C w) : w.heap.size ≠ C := by have := h.lt; omega
theorem cell_far' {w : World} {p q : Addr} {v : Value} (h : w.cell? p = some v) (hne : p.block ≠ q.block) (u : Value) : (w.setCell q u).cell? p = some v := (World.cell?_of_block (w := w) (Below.heap_setCell _ _ _ _ hne)).trans h
theorem own_set {w : World} {base g7 n c : Nat} {e : TypeId} {xs : List Int} (h : Own w base e 1 vI (.slice (some ⟨g7, 0, none⟩) n c) xs) {p : Addr} (hne : g7 ≠ p.block) (u : Value) : Own (w.setCell p u) base e 1 vI (.slice (some ⟨g7, 0, none⟩) n c) xs := by
  refine ⟨h.1, ?_⟩
  rcases h.2 with ⟨e1, -⟩ | ⟨g, cap, cur, hv, hbg, hg, r⟩
  · cases e1
  · refine .inr ⟨g, cap, cur, hv, hbg, ?_, r⟩
    injection hv with h1 _ _
    injection h1 with h1
    injection h1 with h1 _
    rw [Below.heap_setCell _ _ _ _ (by rw [← h1]; exact hne)]
    exact hg
theorem cell_alloc' {w : World} {p : Addr} {v : Value} (h : w.cell? p = some v) (o : Obj) : (w.alloc o).cell? p = some v := cell_keep ((Below.refl _ _).alloc (Nat.le_refl _) o) h
/-- A number below n, asked for in a region that began at w0. -/
theorem below_at {C : Nat} {w0 Q : World} (n : Nat) (hn : 0 < n) (hn2 : n ≤ 1000000) (hc : Cur C Q) (hs : Saves C w0 Q) : Calls Tryz.prog 49 #[.pointer (some ⟨C, 0, none⟩), .int .i64 (n : Int)] Q fun e w' => ∃ i : Nat, e = .returned (.int .i64 (i : Int)) ∧ i < n ∧ Cur C w' ∧ Saves C w0 w' ∧ Saves C Q w' :=
  (below_any C (n : Int) Q hc (by unfold okI; omega)).mono fun e w' ⟨x, he, x0, _, x2, c1, s1⟩ => by
    obtain ⟨i, rfl⟩ := Int.eq_ofNat_of_zero_le x0
    exact ⟨i, he, by have := x2 (by omega); omega, c1, hs.trans s1, s1⟩
theorem int_at {C : Nat} {w0 Q : World} {xs : List Int} {bb n c : Nat} (hc : Cur C Q) (hs : Saves C w0 Q) (hx : ∀ x ∈ xs, okI x) (h0 : 0 < xs.length) (h : SliceOf Q 1 vI (.slice (some ⟨bb, 0, none⟩) n c) xs) (hb : bb ≠ C) : Calls Tryz.prog 51 #[.pointer (some ⟨C, 0, none⟩), .slice (some ⟨bb, 0, none⟩) n c] Q fun e w' => ∃ x : Int, e = .returned (.int .i64 x) ∧ okI x ∧ Cur C w' ∧ Saves C w0 w' ∧ Saves C Q w' :=
  (int_any C xs _ Q hc hx h0 h (fun b off n c hv => by injection hv with e1 e2 e3; injection e1 with e1; injection e1 with e1 e2; omega)).mono fun e w' ⟨x, he, hm, c1, s1⟩ => ⟨x, he, hx x hm, c1, hs.trans s1, s1⟩
theorem slice_saves {C : Nat} {w w' : World} {b off n c : Nat} {xs : List Int} (h : SliceOf w 1 vI (.slice (some ⟨b, off, none⟩) n c) xs) (s : Saves C w w') (hb : b ≠ C) : SliceOf w' 1 vI (.slice (some ⟨b, off, none⟩) n c) xs := by
  obtain ⟨A', c', e, h1, h2, h3⟩ := h
  injection e with e1 e2 e3
  subst e1 e2 e3
  refine ⟨_, c, rfl, h1, h2, fun hn => ?_⟩
  obtain ⟨b', off', e, hlt, hc⟩ := h3 hn
  injection e with e; injection e with e1 e2; subst e1 e2
  exact ⟨b, off, rfl, Nat.lt_of_lt_of_le hlt s.size, fun k x j u hx hu => (s.cell (p := ⟨b, _, none⟩) hlt hb).trans (hc k x j u hx hu)⟩
theorem slice_savesA {C : Nat} {w w' : World} {A : Option Addr} {n c : Nat} {xs : List Int} (h : SliceOf w 1 vI (.slice A n c) xs) (s : Saves C w w') (hb : ∀ b off, A = some ⟨b, off, none⟩ → b ≠ C) : SliceOf w' 1 vI (.slice A n c) xs := by
  obtain ⟨A', c', e, h1, h2, h3⟩ := h
  injection e with e1 e2 e3
  subst e1 e2 e3
  refine ⟨_, c, rfl, h1, h2, fun hn => ?_⟩
  obtain ⟨b', off', e, hlt, hc⟩ := h3 hn
  exact ⟨b', off', e, Nat.lt_of_lt_of_le hlt s.size, fun k x j u hx hu => (s.cell (p := ⟨b', _, none⟩) hlt (hb _ _ e)).trans (hc k x j u hx hu)⟩
theorem slice_set {w : World} {A : Option Addr} {n c : Nat} {xs : List Int} {p : Addr} (h : SliceOf w 1 vI (.slice A n c) xs) (hb : ∀ b off, A = some ⟨b, off, none⟩ → b ≠ p.block) (u : Value) : SliceOf (w.setCell p u) 1 vI (.slice A n c) xs := by
  obtain ⟨A', c', e, h1, h2, h3⟩ := h
  injection e with e1 e2 e3
  subst e1 e2 e3
  refine ⟨_, c, rfl, h1, h2, fun hn => ?_⟩
  obtain ⟨b', off', e, hlt, hc⟩ := h3 hn
  exact ⟨b', off', e, by simpa [World.setCell] using hlt, fun k x j u' hx hu => (World.cell?_of_block (w := w) (Below.heap_setCell _ _ _ _ (hb _ _ e))).trans (hc k x j u' hx hu)⟩
def overNums : List Int := [0, -1, 2000, 2001, 9223372036854775807]
theorem overNums_ok : ∀ x ∈ overNums, okI x := by unfold okI overNums; decide
def valueNums : List Int := [-1, 500000, 500001]
theorem valueNums_ok : ∀ x ∈ valueNums, okI x := by unfold okI valueNums; decide
set_option maxHeartbeats 12800000 in
theorem anyParcel_any (C : Nat) (w : World) (hc : Cur C w) : Calls Tryz.prog 28 #[.pointer (some ⟨C, 0, none⟩)] w (AnyP C w) := by
  have lt := hc.lt
  obtain ⟨i0, hi, hz0, hz1, hz2⟩ := info_parts info_int
  go_enter Tryz.func28, Tryz.ntmps28
  go_wp2_with fail
  obtain ⟨W, hW⟩ : ∃ W, W = w.alloc (.cells #[.int .i64 0, .int .i64 0, .string ⟨#[]⟩, .string ⟨#[]⟩, .int .i64 0, .slice none 0 0, .int .i64 0] 26) := ⟨_, rfl⟩
  rw [← hW]
  have P : Box W w.heap.size 26 #[.int .i64 0, .int .i64 0, .string ⟨#[]⟩, .string ⟨#[]⟩, .int .i64 0, .slice none 0 0, .int .i64 0] := by rw [hW]; exact Box.new _ _ _
  have bW : Below w.heap.size w W := by rw [hW]; go_grown
  have zW : W.heap.size = w.heap.size + 1 := by rw [hW]; simp
  clear hW
  have S0 : Saves C w W := Saves.of_below bW
  refine (parcel_any C _ (hc.keep bW)).mono ?_
  rintro e w1 ⟨a, b, t, f, wt, g, x, y, z, vl, rfl, oa, ob, ot, of, ow, G, hg, hx, hy, hz, ov, c1, s1⟩
  replace P := P.saves s1 (by omega)
  have S1 := S0.trans s1
  have lP := P.lt
  have lG : g < w1.heap.size := Box.lt G
  have ngC : g ≠ C := by omega
  have lt1 := c1.lt
  go_wp2_with fail
  obtain ⟨V, hV⟩ : ∃ V, V = w1.alloc (.cells #[.int .i64 a, .int .i64 b, .string t, .string f, .int .i64 wt, .slice (some ⟨g, 0, none⟩) 3 3, .int .i64 vl] 26) := ⟨_, rfl⟩
  rw [← hV]
  have Q : Box V w1.heap.size 26 #[.int .i64 a, .int .i64 b, .string t, .string f, .int .i64 wt, .slice (some ⟨g, 0, none⟩) 3 3, .int .i64 vl] := by rw [hV]; exact Box.new _ _ _
  have bV : Below w1.heap.size w1 V := by rw [hV]; go_grown
  clear hV
  replace P := P.keep bV
  replace G : Tri V g x y z := Box.keep G bV
  have SV := S1.trans (Saves.of_below bV)
  refine (below_any C 9 _ (c1.keep bV) (by unfold okI; omega)).mono ?_
  rintro e w2 ⟨k, rfl, k0, -, k2, c2, s2⟩
  have k3 := k2 (by omega)
  replace P := P.saves s2 (by omega)
  replace Q := Q.saves s2 (by omega)
  replace G : Tri w2 g x y z := Box.saves G s2 ngC
  have S2 := SV.trans s2
  have lQ := Q.lt
  have zw1 := S1.size
  have nQC : w1.heap.size ≠ C := by omega
  have nPC : w.heap.size ≠ C := by omega
  have nPQ : ¬ w.heap.size = w1.heap.size := by omega
  have nQP : ¬ w1.heap.size = w.heap.size := by omega
  have nGQ : g ≠ w1.heap.size := by omega
  have nGP : g ≠ w.heap.size := by omega
  have hgw : w.heap.size ≤ g := by omega
  have hCg : C < g := by omega
  have nQG : w1.heap.size ≠ g := by omega
  have oxyz : ∀ u ∈ [x, y, z], okI u := by intro u hu; simp at hu; unfold okI; rcases hu with rfl | rfl | rfl <;> omega
  clear s1 s2 c1 S0 S1 SV bW bV k2
  by_cases e0 : k = 0
  · subst e0
    go_wp2_with fail
    refine (odd_any C _ c2).mono ?_
    rintro e w3 ⟨nn, rfl, hnn, c3, s3⟩
    replace P := P.saves s3 nPC
    replace Q := Q.saves s3 nQC
    replace G : Tri w3 g x y z := Box.saves G s3 ngC
    have S3 := S2.trans s3
    clear s3 c2 S2
    have p0 : w3.cell? ⟨w.heap.size, 0, none⟩ = some (.int .i64 0) := P.cell 0
    have p1 : w3.cell? ⟨w.heap.size, 1, none⟩ = some (.int .i64 0) := P.cell 1
    have p2 : w3.cell? ⟨w.heap.size, 2, none⟩ = some (.string ⟨#[]⟩) := P.cell 2
    have p3 : w3.cell? ⟨w.heap.size, 3, none⟩ = some (.string ⟨#[]⟩) := P.cell 3
    have p4 : w3.cell? ⟨w.heap.size, 4, none⟩ = some (.int .i64 0) := P.cell 4
    have p5 : w3.cell? ⟨w.heap.size, 5, none⟩ = some (.slice none 0 0) := P.cell 5
    have p6 : w3.cell? ⟨w.heap.size, 6, none⟩ = some (.int .i64 0) := P.cell 6
    have pf : ∀ j, w3.frozen? ⟨w.heap.size, j, none⟩ = false := fun j => P.frozen j
    have q0 : w3.cell? ⟨w1.heap.size, 0, none⟩ = some (.int .i64 a) := Q.cell 0
    have q1 : w3.cell? ⟨w1.heap.size, 1, none⟩ = some (.int .i64 b) := Q.cell 1
    have q2 : w3.cell? ⟨w1.heap.size, 2, none⟩ = some (.string t) := Q.cell 2
    have q3 : w3.cell? ⟨w1.heap.size, 3, none⟩ = some (.string f) := Q.cell 3
    have q4 : w3.cell? ⟨w1.heap.size, 4, none⟩ = some (.int .i64 wt) := Q.cell 4
    have q5 : w3.cell? ⟨w1.heap.size, 5, none⟩ = some (.slice (some ⟨g, 0, none⟩) 3 3) := Q.cell 5
    have q6 : w3.cell? ⟨w1.heap.size, 6, none⟩ = some (.int .i64 vl) := Q.cell 6
    have qf : ∀ j, w3.frozen? ⟨w1.heap.size, j, none⟩ = false := fun j => Q.frozen j
    go_wp2_with fail
    refine bodyPost_ret (v := .agg #[.int .i64 a, .int .i64 b, .string t, .string f, .int .i64 nn, .slice (some ⟨g, 0, none⟩) 3 3, .int .i64 vl]) (by simp [results, Tryz.results28, go_sem, p0, p1, p2, p3, p4, p5, p6]) rfl ⟨_, _, _, _, _, (some ⟨g, 0, none⟩), 3, [x, y, z], _, rfl, oa, ob, ot, of, hnn, ?_, ?_, ?_, by simp, ov, ?_, ?_⟩
    · have GB : Box w3 g 3 #[.int .i64 x, .int .i64 y, .int .i64 z] := G
      refine Tri.slice ?_
      show Box _ _ _ _
      repeat' (first | with_reducible exact GB | with_reducible refine Box.far ?_ ?_ _ | (simp only; omega))
    · intro bb off e; injection e with e; injection e with e1 e2; omega
    · exact oxyz
    · repeat' (first | with_reducible exact c3 | with_reducible refine Cur.setB ?_ ?_ _ | (simp only; omega))
    · repeat' (first | with_reducible exact S3 | with_reducible refine Saves.setNew ?_ ?_ _ | (simp only; omega))
  by_cases e1 : k = 1
  · subst e1
    have q5 : w2.cell? ⟨w1.heap.size, 5, none⟩ = some (.slice (some ⟨g, 0, none⟩) 3 3) := Q.cell 5
    have hlit := slice_drew (lit_slice (f := Value.int .i64) (vals := vI) (fun _ => rfl) overNums 3 w2 #[.int .i64 0, .int .i64 (-1), .int .i64 2000, .int .i64 2001, .int .i64 9223372036854775807] rfl (by decide))
    have S22 := Saves.refl C w2
    have nw2 : w2.heap.size ≠ C := by have := c2.lt; omega
    go_wp2_with fail
    go_region_held3 (fun R => Cur C R ∧ Saves C w R ∧ R.cell? ⟨w1.heap.size, 5, none⟩ = some (.slice (some ⟨g, 0, none⟩) 3 3)) (((try go_split_ands); refine ⟨?_, ?_, ?_⟩ <;> first | assumption | exact cur_drew c2 | exact S2.drew | exact cur_drew (cur_alloc c2 _) | exact (S2.alloc _).drew | (refine cur_alloc ?_ _; assumption) | (refine saves_alloc ?_ _; assumption) | exact Saves.at' (S22.alloc _).drew q5 nQC | (refine cell_alloc' ?_ _; assumption) | (refine Saves.at' sr3 ?_ nQC; assumption) | (refine Saves.at' sr ?_ nQC; assumption) | (refine Cur.setB ?_ hCg _; assumption) | (refine Saves.setNew ?_ hgw _; assumption) | (refine cell_far' ?_ nQG _; assumption))) ((first
      | (go_at_call 49
         (try go_split_ands)
         refine (below_at (w0 := w) 3 (by omega) (by omega) (by assumption) (by assumption)).mono ?_
         rintro e w' ⟨n, rfl, hn3, c', s', sr⟩
         have n0 : (0 : Int) ≤ (n : Int) := Int.natCast_nonneg _
         have n3 : (n : Int) < 3 := by omega
         try (have hsl := slice_saves hlit sr nw2))
      | (go_at_call 51
         (try go_split_ands)
         first
         | refine (int_at (w0 := w) (by assumption) (by assumption) overNums_ok (by decide) hsl nw2).mono ?_
         | refine (int_at (w0 := w) (by assumption) (by assumption) overNums_ok (by decide) (lit_slice (f := Value.int .i64) (vals := vI) (fun _ => rfl) overNums _ _ _ rfl (by decide)) c'.ne_).mono ?_
         rintro e w3 ⟨nn, rfl, hnn, c3, s3, sr3⟩
         have TG : Tri w3 g x y z := by first | exact Box.saves (Box.alloc (Box.saves (Box.drew G) sr ngC) _) sr3 ngC | exact Box.saves (Box.saves (Box.drew (Box.alloc G _)) sr ngC) sr3 ngC
         have TP : Box w3 w.heap.size 26 #[.int .i64 0, .int .i64 0, .string ⟨#[]⟩, .string ⟨#[]⟩, .int .i64 0, .slice none 0 0, .int .i64 0] := by first | exact Box.saves (Box.alloc (Box.saves (Box.drew P) sr nPC) _) sr3 nPC | exact Box.saves (Box.saves (Box.drew (Box.alloc P _)) sr nPC) sr3 nPC
         have TQ : Box w3 w1.heap.size 26 #[.int .i64 a, .int .i64 b, .string t, .string f, .int .i64 wt, .slice (some ⟨g, 0, none⟩) 3 3, .int .i64 vl] := by first | exact Box.saves (Box.alloc (Box.saves (Box.drew Q) sr nQC) _) sr3 nQC | exact Box.saves (Box.saves (Box.drew (Box.alloc Q _)) sr nQC) sr3 nQC
         obtain ⟨⟨u, hu⟩, hfu⟩ := Tri.at_ TG hn3)))
    (try go_split_ands)
    all_goals
      obtain ⟨X, hX⟩ : ∃ X, X = w3.setCell ⟨g, n, none⟩ (.int .i64 nn) := ⟨_, rfl⟩
      try rw [← hX]
      obtain ⟨x1, y1, z1, TX, ox, oy, oz⟩ := Tri.set_ (v := nn) TG hn3
      rw [← hX] at TX
      replace TP := TP.far (p := ⟨g, n, none⟩) (by simp only; omega) (.int .i64 nn)
      rw [← hX] at TP
      replace TQ := TQ.far (p := ⟨g, n, none⟩) (by simp only; omega) (.int .i64 nn)
      rw [← hX] at TQ
      have cX : Cur C X := by rw [hX]; exact c3.setB (by simp only; omega) _
      have SX : Saves C w X := by rw [hX]; exact s3.setNew (by simp only; omega) _
      have oxyz2 : ∀ u ∈ [x1, y1, z1], okI u := by
        have h1 := oxyz x (by simp)
        have h2 := oxyz y (by simp)
        have h3 := oxyz z (by simp)
        intro u hu; simp at hu; rcases hu with rfl | rfl | rfl
        · rcases ox with rfl | rfl <;> assumption
        · rcases oy with rfl | rfl <;> assumption
        · rcases oz with rfl | rfl <;> assumption
      clear hX TG hu hfu c3 s3 sr3 sr c2 S2 P Q G
      have p0 : X.cell? ⟨w.heap.size, 0, none⟩ = some (.int .i64 0) := TP.cell 0
      have p1 : X.cell? ⟨w.heap.size, 1, none⟩ = some (.int .i64 0) := TP.cell 1
      have p2 : X.cell? ⟨w.heap.size, 2, none⟩ = some (.string ⟨#[]⟩) := TP.cell 2
      have p3 : X.cell? ⟨w.heap.size, 3, none⟩ = some (.string ⟨#[]⟩) := TP.cell 3
      have p4 : X.cell? ⟨w.heap.size, 4, none⟩ = some (.int .i64 0) := TP.cell 4
      have p5 : X.cell? ⟨w.heap.size, 5, none⟩ = some (.slice none 0 0) := TP.cell 5
      have p6 : X.cell? ⟨w.heap.size, 6, none⟩ = some (.int .i64 0) := TP.cell 6
      have pf : ∀ j, X.frozen? ⟨w.heap.size, j, none⟩ = false := fun j => TP.frozen j
      have q0 : X.cell? ⟨w1.heap.size, 0, none⟩ = some (.int .i64 a) := TQ.cell 0
      have q1 : X.cell? ⟨w1.heap.size, 1, none⟩ = some (.int .i64 b) := TQ.cell 1
      have q2 : X.cell? ⟨w1.heap.size, 2, none⟩ = some (.string t) := TQ.cell 2
      have q3 : X.cell? ⟨w1.heap.size, 3, none⟩ = some (.string f) := TQ.cell 3
      have q4 : X.cell? ⟨w1.heap.size, 4, none⟩ = some (.int .i64 wt) := TQ.cell 4
      have q5 : X.cell? ⟨w1.heap.size, 5, none⟩ = some (.slice (some ⟨g, 0, none⟩) 3 3) := TQ.cell 5
      have q6 : X.cell? ⟨w1.heap.size, 6, none⟩ = some (.int .i64 vl) := TQ.cell 6
      have qf : ∀ j, X.frozen? ⟨w1.heap.size, j, none⟩ = false := fun j => TQ.frozen j
      go_wp2_with fail
      refine bodyPost_ret (v := .agg #[.int .i64 a, .int .i64 b, .string t, .string f, .int .i64 wt, .slice (some ⟨g, 0, none⟩) 3 3, .int .i64 vl]) (by simp [results, Tryz.results28, go_sem, p0, p1, p2, p3, p4, p5, p6]) rfl ⟨_, _, _, _, _, (some ⟨g, 0, none⟩), 3, [x1, y1, z1], _, rfl, oa, ob, ot, of, ow, ?_, ?_, ?_, by simp, ov, ?_, ?_⟩
      · have GB : Box X g 3 #[.int .i64 x1, .int .i64 y1, .int .i64 z1] := TX
        refine Tri.slice ?_
        show Box _ _ _ _
        repeat' (first | with_reducible exact GB | with_reducible refine Box.far ?_ ?_ _ | (simp only; omega))
      · intro bb off e; injection e with e; injection e with e1 e2; omega
      · exact oxyz2
      · repeat' (first | with_reducible exact cX | with_reducible refine Cur.setB ?_ ?_ _ | (simp only; omega))
      · repeat' (first | with_reducible exact SX | with_reducible refine Saves.setNew ?_ ?_ _ | (simp only; omega))
  by_cases e2 : k = 2
  · subst e2
    have y0 : w2.cell? ⟨w1.heap.size, 0, none⟩ = some (.int .i64 a) := Q.cell 0
    have y1 : w2.cell? ⟨w1.heap.size, 1, none⟩ = some (.int .i64 b) := Q.cell 1
    have y2 : w2.cell? ⟨w1.heap.size, 2, none⟩ = some (.string t) := Q.cell 2
    have y3 : w2.cell? ⟨w1.heap.size, 3, none⟩ = some (.string f) := Q.cell 3
    have y4 : w2.cell? ⟨w1.heap.size, 4, none⟩ = some (.int .i64 wt) := Q.cell 4
    have y5 : w2.cell? ⟨w1.heap.size, 5, none⟩ = some (.slice (some ⟨g, 0, none⟩) 3 3) := Q.cell 5
    have y6 : w2.cell? ⟨w1.heap.size, 6, none⟩ = some (.int .i64 vl) := Q.cell 6
    have yf : ∀ j, w2.frozen? ⟨w1.heap.size, j, none⟩ = false := fun j => Q.frozen j
    have hzw2 : w.heap.size ≤ w2.heap.size := S2.size
    have lg2 : g < w2.heap.size := Box.lt G
    go_wp2_with (at_builtin; refine wpList_append_own _ rfl (.tmp 26) (.tmp 27) 24 rfl w.heap.size 3 i0 (.int .i64 0) 1 8 Tryz.underlying24 hi hz0 hz1 hz2 rfl (by decide) _ _ _ rfl ((Tri.own G hgw).alloc _) _ 1 1 [.int .i64 5] rfl rfl ?c1 ?c2 ?c3 ?c4 ?c5 ?_)
    case c1 =>
      intro j u hj
      match j, hj with
      | 0, hj => simp at hj; subst hj; simp [go_sem, Addr.add]
    case c2 => intro u hu; simp at hu; subst hu; rfl
    case c3 => unfold maxLen; omega
    case c4 => omega
    case c5 => simp; omega
    intro v' w7 hown' hgrow hnil
    have hO : Own w7 w.heap.size 3 1 vI v' [x, y, z, 5] := hown'
    have TP : Box w7 w.heap.size 26 #[.int .i64 0, .int .i64 0, .string ⟨#[]⟩, .string ⟨#[]⟩, .int .i64 0, .slice none 0 0, .int .i64 0] := (P.alloc _).grown hgrow (by intro e; have e2 : some w.heap.size = some g := e; injection e2 with e2; omega)
    have TQ : Box w7 w1.heap.size 26 #[.int .i64 a, .int .i64 b, .string t, .string f, .int .i64 wt, .slice (some ⟨g, 0, none⟩) 3 3, .int .i64 vl] := (Q.alloc _).grown hgrow (by intro e; have e2 : some w1.heap.size = some g := e; injection e2 with e2; omega)
    have gB : ∀ kk, (Value.slice (some ⟨g, 0, none⟩) 3 3).ownBlock = some kk → g = kk := fun kk e => by injection e
    have B7 : Below w.heap.size w2 w7 := ((Below.refl _ _).alloc hzw2 _).grown hgrow (by simp; omega) (fun kk e => by have := gB kk e; omega)
    have cc7 : Cur C w7 := c2.keepB B7 (by omega)
    have S7 : Saves C w w7 := S2.belowR B7 (Nat.le_refl _)
    have c7' := Lib.hid cc7
    obtain ⟨g7, c7, rfl, hg7⟩ : ∃ g7 c7, v' = .slice (some ⟨g7, 0, none⟩) 4 c7 ∧ ∃ cur, w7.heap[g7]? = some (.cells cur 3 (0, 0)) ∧ w.heap.size ≤ g7 := by
      rcases hO.2 with ⟨e, -⟩ | ⟨g7, cap, cur, e, h1, h2, -⟩
      · exact (hnil e).elim
      · exact ⟨g7, cap, e, cur, h2, h1⟩
    obtain ⟨cur7, hh7, hb7⟩ := hg7
    have n7P : g7 ≠ w.heap.size := by
      intro e; rw [e] at hh7; have h2 := hh7.symm.trans TP; injection h2 with h2; injection h2 with _ h3; exact absurd h3 (by decide)
    have n7Q : g7 ≠ w1.heap.size := by
      intro e; rw [e] at hh7; have h2 := hh7.symm.trans TQ; injection h2 with h2; injection h2 with _ h3; exact absurd h3 (by decide)
    have oxyz5 : ∀ u ∈ [x, y, z, 5], okI u := by
      intro u hu; simp at hu; unfold okI; rcases hu with rfl | rfl | rfl | rfl <;> omega
    have C7 := c7'.out
    have hO4 : Own w7 w.heap.size 3 1 vI (.slice (some ⟨g7, 0, none⟩) [x, y, z, 5].length c7) [x, y, z, 5] := hO
    clear hown' hgrow hnil P Q G c2 S2 B7 hh7 gB y0 y1 y2 y3 y4 y5 y6 yf
    have p0 : w7.cell? ⟨w.heap.size, 0, none⟩ = some (.int .i64 0) := TP.cell 0
    have p1 : w7.cell? ⟨w.heap.size, 1, none⟩ = some (.int .i64 0) := TP.cell 1
    have p2 : w7.cell? ⟨w.heap.size, 2, none⟩ = some (.string ⟨#[]⟩) := TP.cell 2
    have p3 : w7.cell? ⟨w.heap.size, 3, none⟩ = some (.string ⟨#[]⟩) := TP.cell 3
    have p4 : w7.cell? ⟨w.heap.size, 4, none⟩ = some (.int .i64 0) := TP.cell 4
    have p5 : w7.cell? ⟨w.heap.size, 5, none⟩ = some (.slice none 0 0) := TP.cell 5
    have p6 : w7.cell? ⟨w.heap.size, 6, none⟩ = some (.int .i64 0) := TP.cell 6
    have pf : ∀ j, w7.frozen? ⟨w.heap.size, j, none⟩ = false := fun j => TP.frozen j
    have q0 : w7.cell? ⟨w1.heap.size, 0, none⟩ = some (.int .i64 a) := TQ.cell 0
    have q1 : w7.cell? ⟨w1.heap.size, 1, none⟩ = some (.int .i64 b) := TQ.cell 1
    have q2 : w7.cell? ⟨w1.heap.size, 2, none⟩ = some (.string t) := TQ.cell 2
    have q3 : w7.cell? ⟨w1.heap.size, 3, none⟩ = some (.string f) := TQ.cell 3
    have q4 : w7.cell? ⟨w1.heap.size, 4, none⟩ = some (.int .i64 wt) := TQ.cell 4
    have q5 : w7.cell? ⟨w1.heap.size, 5, none⟩ = some (.slice (some ⟨g, 0, none⟩) 3 3) := TQ.cell 5
    have q6 : w7.cell? ⟨w1.heap.size, 6, none⟩ = some (.int .i64 vl) := TQ.cell 6
    have qf : ∀ j, w7.frozen? ⟨w1.heap.size, j, none⟩ = false := fun j => TQ.frozen j
    go_wp2_with fail
    refine bodyPost_ret (v := .agg #[.int .i64 a, .int .i64 b, .string t, .string f, .int .i64 wt, .slice (some ⟨g7, 0, none⟩) 4 c7, .int .i64 vl]) (by simp [results, Tryz.results28, go_sem, p0, p1, p2, p3, p4, p5, p6]) rfl ⟨_, _, _, _, _, (some ⟨g7, 0, none⟩), c7, [x, y, z, 5], _, rfl, oa, ob, ot, of, ow, ?_, ?_, ?_, by simp, ov, ?_, ?_⟩
    · refine Own.slice (base := w.heap.size) (e := 3) vI_len (by omega) ?_
      repeat' (first | with_reducible exact hO4 | with_reducible refine own_set ?_ ?_ _ | (simp only; omega))
    · intro bb off e; injection e with e; injection e with e1 e2; omega
    · exact oxyz5
    · repeat' (first | with_reducible exact C7 | with_reducible refine Cur.setB ?_ ?_ _ | (simp only; omega))
    · repeat' (first | with_reducible exact S7 | with_reducible refine Saves.setNew ?_ ?_ _ | (simp only; omega))
  by_cases e3 : k = 3
  · subst e3
    go_wp2_with fail
    have hS := lit_slice (f := Value.int .i64) (vals := vI) (fun _ => rfl) valueNums 3 w2 #[.int .i64 (-1), .int .i64 500000, .int .i64 500001] rfl (by decide)
    have bS : Below w2.heap.size w2 (w2.alloc (.cells #[.int .i64 (-1), .int .i64 500000, .int .i64 500001] 3)) := by go_grown
    refine (int_any C valueNums _ _ (c2.keep bS) valueNums_ok (by decide) hS (fun b off n c hv => by have := c2.lt; injection hv with e1 e2 e3; injection e1 with e1; injection e1 with e1 e2; omega)).mono ?_
    rintro e w3 ⟨nn, rfl, hnn, c3, s3⟩
    replace P := (P.keep bS).saves s3 nPC
    replace Q := (Q.keep bS).saves s3 nQC
    replace G : Tri w3 g x y z := Box.saves (Box.keep G bS) s3 ngC
    have S3 := (S2.trans (Saves.of_below bS)).trans s3
    clear s3 c2 S2 bS hS
    have p0 : w3.cell? ⟨w.heap.size, 0, none⟩ = some (.int .i64 0) := P.cell 0
    have p1 : w3.cell? ⟨w.heap.size, 1, none⟩ = some (.int .i64 0) := P.cell 1
    have p2 : w3.cell? ⟨w.heap.size, 2, none⟩ = some (.string ⟨#[]⟩) := P.cell 2
    have p3 : w3.cell? ⟨w.heap.size, 3, none⟩ = some (.string ⟨#[]⟩) := P.cell 3
    have p4 : w3.cell? ⟨w.heap.size, 4, none⟩ = some (.int .i64 0) := P.cell 4
    have p5 : w3.cell? ⟨w.heap.size, 5, none⟩ = some (.slice none 0 0) := P.cell 5
    have p6 : w3.cell? ⟨w.heap.size, 6, none⟩ = some (.int .i64 0) := P.cell 6
    have pf : ∀ j, w3.frozen? ⟨w.heap.size, j, none⟩ = false := fun j => P.frozen j
    have q0 : w3.cell? ⟨w1.heap.size, 0, none⟩ = some (.int .i64 a) := Q.cell 0
    have q1 : w3.cell? ⟨w1.heap.size, 1, none⟩ = some (.int .i64 b) := Q.cell 1
    have q2 : w3.cell? ⟨w1.heap.size, 2, none⟩ = some (.string t) := Q.cell 2
    have q3 : w3.cell? ⟨w1.heap.size, 3, none⟩ = some (.string f) := Q.cell 3
    have q4 : w3.cell? ⟨w1.heap.size, 4, none⟩ = some (.int .i64 wt) := Q.cell 4
    have q5 : w3.cell? ⟨w1.heap.size, 5, none⟩ = some (.slice (some ⟨g, 0, none⟩) 3 3) := Q.cell 5
    have q6 : w3.cell? ⟨w1.heap.size, 6, none⟩ = some (.int .i64 vl) := Q.cell 6
    have qf : ∀ j, w3.frozen? ⟨w1.heap.size, j, none⟩ = false := fun j => Q.frozen j
    go_wp2_with fail
    refine bodyPost_ret (v := .agg #[.int .i64 a, .int .i64 b, .string t, .string f, .int .i64 wt, .slice (some ⟨g, 0, none⟩) 3 3, .int .i64 nn]) (by simp [results, Tryz.results28, go_sem, p0, p1, p2, p3, p4, p5, p6]) rfl ⟨_, _, _, _, _, (some ⟨g, 0, none⟩), 3, [x, y, z], _, rfl, oa, ob, ot, of, ow, ?_, ?_, ?_, by simp, valueNums_ok _ hnn, ?_, ?_⟩
    · have GB : Box w3 g 3 #[.int .i64 x, .int .i64 y, .int .i64 z] := G
      refine Tri.slice ?_
      show Box _ _ _ _
      repeat' (first | with_reducible exact GB | with_reducible refine Box.far ?_ ?_ _ | (simp only; omega))
    · intro bb off e; injection e with e; injection e with e1 e2; omega
    · exact oxyz
    · repeat' (first | with_reducible exact c3 | with_reducible refine Cur.setB ?_ ?_ _ | (simp only; omega))
    · repeat' (first | with_reducible exact S3 | with_reducible refine Saves.setNew ?_ ?_ _ | (simp only; omega))
  by_cases e4 : k = 4
  · subst e4
    have y0 : w2.cell? ⟨w1.heap.size, 0, none⟩ = some (.int .i64 a) := Q.cell 0
    have y1 : w2.cell? ⟨w1.heap.size, 1, none⟩ = some (.int .i64 b) := Q.cell 1
    have y2 : w2.cell? ⟨w1.heap.size, 2, none⟩ = some (.string t) := Q.cell 2
    have y3 : w2.cell? ⟨w1.heap.size, 3, none⟩ = some (.string f) := Q.cell 3
    have y4 : w2.cell? ⟨w1.heap.size, 4, none⟩ = some (.int .i64 wt) := Q.cell 4
    have y5 : w2.cell? ⟨w1.heap.size, 5, none⟩ = some (.slice (some ⟨g, 0, none⟩) 3 3) := Q.cell 5
    have y6 : w2.cell? ⟨w1.heap.size, 6, none⟩ = some (.int .i64 vl) := Q.cell 6
    have yf : ∀ j, w2.frozen? ⟨w1.heap.size, j, none⟩ = false := fun j => Q.frozen j
    go_wp2_with fail
    clear y0 y1 y2 y3 y4 y5 y6 yf
    have hS := lit_slice (f := Value.string) (vals := vS) (fun _ => rfl) [t, ⟨#[]⟩, ⟨#[97, 109]⟩] 9 w2 #[.string t, .string ⟨#[]⟩, .string ⟨#[97, 109]⟩] rfl (by show 3 ≤ maxLen; unfold maxLen; omega)
    have bS : Below w2.heap.size w2 (w2.alloc (.cells #[.string t, .string ⟨#[]⟩, .string ⟨#[97, 109]⟩] 9)) := by go_grown
    refine (str_any C [t, ⟨#[]⟩, ⟨#[97, 109]⟩] _ _ (c2.keep bS) (by simp) hS (fun b off n c hv => by have := c2.lt; injection hv with e1 e2 e3; injection e1 with e1; injection e1 with e1 e2; omega)).mono ?_
    rintro e w3 ⟨ff, rfl, hff, c3, s3⟩
    have off : ff.size ≤ maxLen := by
      simp at hff
      rcases hff with rfl | rfl | rfl
      · exact ot
      · unfold maxLen; decide
      · unfold maxLen; decide
    replace P := (P.keep bS).saves s3 nPC
    replace Q := (Q.keep bS).saves s3 nQC
    replace G : Tri w3 g x y z := Box.saves (Box.keep G bS) s3 ngC
    have S3 := (S2.trans (Saves.of_below bS)).trans s3
    clear s3 c2 S2 bS hS hff
    have p0 : w3.cell? ⟨w.heap.size, 0, none⟩ = some (.int .i64 0) := P.cell 0
    have p1 : w3.cell? ⟨w.heap.size, 1, none⟩ = some (.int .i64 0) := P.cell 1
    have p2 : w3.cell? ⟨w.heap.size, 2, none⟩ = some (.string ⟨#[]⟩) := P.cell 2
    have p3 : w3.cell? ⟨w.heap.size, 3, none⟩ = some (.string ⟨#[]⟩) := P.cell 3
    have p4 : w3.cell? ⟨w.heap.size, 4, none⟩ = some (.int .i64 0) := P.cell 4
    have p5 : w3.cell? ⟨w.heap.size, 5, none⟩ = some (.slice none 0 0) := P.cell 5
    have p6 : w3.cell? ⟨w.heap.size, 6, none⟩ = some (.int .i64 0) := P.cell 6
    have pf : ∀ j, w3.frozen? ⟨w.heap.size, j, none⟩ = false := fun j => P.frozen j
    have q0 : w3.cell? ⟨w1.heap.size, 0, none⟩ = some (.int .i64 a) := Q.cell 0
    have q1 : w3.cell? ⟨w1.heap.size, 1, none⟩ = some (.int .i64 b) := Q.cell 1
    have q2 : w3.cell? ⟨w1.heap.size, 2, none⟩ = some (.string t) := Q.cell 2
    have q3 : w3.cell? ⟨w1.heap.size, 3, none⟩ = some (.string f) := Q.cell 3
    have q4 : w3.cell? ⟨w1.heap.size, 4, none⟩ = some (.int .i64 wt) := Q.cell 4
    have q5 : w3.cell? ⟨w1.heap.size, 5, none⟩ = some (.slice (some ⟨g, 0, none⟩) 3 3) := Q.cell 5
    have q6 : w3.cell? ⟨w1.heap.size, 6, none⟩ = some (.int .i64 vl) := Q.cell 6
    have qf : ∀ j, w3.frozen? ⟨w1.heap.size, j, none⟩ = false := fun j => Q.frozen j
    go_wp2_with fail
    refine bodyPost_ret (v := .agg #[.int .i64 a, .int .i64 b, .string t, .string ff, .int .i64 wt, .slice (some ⟨g, 0, none⟩) 3 3, .int .i64 vl]) (by simp [results, Tryz.results28, go_sem, p0, p1, p2, p3, p4, p5, p6]) rfl ⟨_, _, _, _, _, (some ⟨g, 0, none⟩), 3, [x, y, z], _, rfl, oa, ob, ot, off, ow, ?_, ?_, ?_, by simp, ov, ?_, ?_⟩
    · have GB : Box w3 g 3 #[.int .i64 x, .int .i64 y, .int .i64 z] := G
      refine Tri.slice ?_
      show Box _ _ _ _
      repeat' (first | with_reducible exact GB | with_reducible refine Box.far ?_ ?_ _ | (simp only; omega))
    · intro bb off e; injection e with e; injection e with e1 e2; omega
    · exact oxyz
    · repeat' (first | with_reducible exact c3 | with_reducible refine Cur.setB ?_ ?_ _ | (simp only; omega))
    · repeat' (first | with_reducible exact S3 | with_reducible refine Saves.setNew ?_ ?_ _ | (simp only; omega))
  by_cases e5 : k = 5
  · subst e5
    go_wp2_with fail
    refine (anyLabel_any C _ c2).mono ?_
    rintro e w3 ⟨a2, b2, t2, rfl, oa2, ob2, ot2, c3, s3⟩
    replace P := P.saves s3 nPC
    replace Q := Q.saves s3 nQC
    replace G : Tri w3 g x y z := Box.saves G s3 ngC
    have S3 := S2.trans s3
    clear s3 c2 S2
    have p0 : w3.cell? ⟨w.heap.size, 0, none⟩ = some (.int .i64 0) := P.cell 0
    have p1 : w3.cell? ⟨w.heap.size, 1, none⟩ = some (.int .i64 0) := P.cell 1
    have p2 : w3.cell? ⟨w.heap.size, 2, none⟩ = some (.string ⟨#[]⟩) := P.cell 2
    have p3 : w3.cell? ⟨w.heap.size, 3, none⟩ = some (.string ⟨#[]⟩) := P.cell 3
    have p4 : w3.cell? ⟨w.heap.size, 4, none⟩ = some (.int .i64 0) := P.cell 4
    have p5 : w3.cell? ⟨w.heap.size, 5, none⟩ = some (.slice none 0 0) := P.cell 5
    have p6 : w3.cell? ⟨w.heap.size, 6, none⟩ = some (.int .i64 0) := P.cell 6
    have pf : ∀ j, w3.frozen? ⟨w.heap.size, j, none⟩ = false := fun j => P.frozen j
    have q0 : w3.cell? ⟨w1.heap.size, 0, none⟩ = some (.int .i64 a) := Q.cell 0
    have q1 : w3.cell? ⟨w1.heap.size, 1, none⟩ = some (.int .i64 b) := Q.cell 1
    have q2 : w3.cell? ⟨w1.heap.size, 2, none⟩ = some (.string t) := Q.cell 2
    have q3 : w3.cell? ⟨w1.heap.size, 3, none⟩ = some (.string f) := Q.cell 3
    have q4 : w3.cell? ⟨w1.heap.size, 4, none⟩ = some (.int .i64 wt) := Q.cell 4
    have q5 : w3.cell? ⟨w1.heap.size, 5, none⟩ = some (.slice (some ⟨g, 0, none⟩) 3 3) := Q.cell 5
    have q6 : w3.cell? ⟨w1.heap.size, 6, none⟩ = some (.int .i64 vl) := Q.cell 6
    have qf : ∀ j, w3.frozen? ⟨w1.heap.size, j, none⟩ = false := fun j => Q.frozen j
    go_wp2_with fail
    refine bodyPost_ret (v := .agg #[.int .i64 a2, .int .i64 b2, .string t2, .string f, .int .i64 wt, .slice (some ⟨g, 0, none⟩) 3 3, .int .i64 vl]) (by simp [results, Tryz.results28, go_sem, p0, p1, p2, p3, p4, p5, p6]) rfl ⟨_, _, _, _, _, (some ⟨g, 0, none⟩), 3, [x, y, z], _, rfl, oa2, ob2, lab_small ot2, of, ow, ?_, ?_, ?_, by simp, ov, ?_, ?_⟩
    · have GB : Box w3 g 3 #[.int .i64 x, .int .i64 y, .int .i64 z] := G
      refine Tri.slice ?_
      show Box _ _ _ _
      repeat' (first | with_reducible exact GB | with_reducible refine Box.far ?_ ?_ _ | (simp only; omega))
    · intro bb off e; injection e with e; injection e with e1 e2; omega
    · exact oxyz
    · repeat' (first | with_reducible exact c3 | with_reducible refine Cur.setB ?_ ?_ _ | (simp only; omega))
    · repeat' (first | with_reducible exact S3 | with_reducible refine Saves.setNew ?_ ?_ _ | (simp only; omega))
  have b0 : (k == 0) = false := by simpa using e0
  have b1 : (k == 1) = false := by simpa using e1
  have b2 : (k == 2) = false := by simpa using e2
  have b3 : (k == 3) = false := by simpa using e3
  have b4 : (k == 4) = false := by simpa using e4
  have b5 : (k == 5) = false := by simpa using e5
  have p0 : w2.cell? ⟨w.heap.size, 0, none⟩ = some (.int .i64 0) := P.cell 0
  have p1 : w2.cell? ⟨w.heap.size, 1, none⟩ = some (.int .i64 0) := P.cell 1
  have p2 : w2.cell? ⟨w.heap.size, 2, none⟩ = some (.string ⟨#[]⟩) := P.cell 2
  have p3 : w2.cell? ⟨w.heap.size, 3, none⟩ = some (.string ⟨#[]⟩) := P.cell 3
  have p4 : w2.cell? ⟨w.heap.size, 4, none⟩ = some (.int .i64 0) := P.cell 4
  have p5 : w2.cell? ⟨w.heap.size, 5, none⟩ = some (.slice none 0 0) := P.cell 5
  have p6 : w2.cell? ⟨w.heap.size, 6, none⟩ = some (.int .i64 0) := P.cell 6
  have pf : ∀ j, w2.frozen? ⟨w.heap.size, j, none⟩ = false := fun j => P.frozen j
  have q0 : w2.cell? ⟨w1.heap.size, 0, none⟩ = some (.int .i64 a) := Q.cell 0
  have q1 : w2.cell? ⟨w1.heap.size, 1, none⟩ = some (.int .i64 b) := Q.cell 1
  have q2 : w2.cell? ⟨w1.heap.size, 2, none⟩ = some (.string t) := Q.cell 2
  have q3 : w2.cell? ⟨w1.heap.size, 3, none⟩ = some (.string f) := Q.cell 3
  have q4 : w2.cell? ⟨w1.heap.size, 4, none⟩ = some (.int .i64 wt) := Q.cell 4
  have q5 : w2.cell? ⟨w1.heap.size, 5, none⟩ = some (.slice (some ⟨g, 0, none⟩) 3 3) := Q.cell 5
  have q6 : w2.cell? ⟨w1.heap.size, 6, none⟩ = some (.int .i64 vl) := Q.cell 6
  have qf : ∀ j, w2.frozen? ⟨w1.heap.size, j, none⟩ = false := fun j => Q.frozen j
  go_wp2_with fail
  refine bodyPost_ret (v := .agg #[.int .i64 a, .int .i64 b, .string t, .string f, .int .i64 wt, .slice (some ⟨g, 0, none⟩) 3 3, .int .i64 vl]) (by simp [results, Tryz.results28, go_sem, p0, p1, p2, p3, p4, p5, p6]) rfl ⟨_, _, _, _, _, (some ⟨g, 0, none⟩), 3, [x, y, z], _, rfl, oa, ob, ot, of, ow, ?_, ?_, ?_, by simp, ov, ?_, ?_⟩
  · have GB : Box w2 g 3 #[.int .i64 x, .int .i64 y, .int .i64 z] := G
    refine Tri.slice ?_
    show Box _ _ _ _
    repeat' (first | with_reducible exact GB | with_reducible refine Box.far ?_ ?_ _ | (simp only; omega))
  · intro bb off e; injection e with e; injection e with e1 e2; omega
  · exact oxyz
  · repeat' (first | with_reducible exact c2 | with_reducible refine Cur.setB ?_ ?_ _ | (simp only; omega))
  · repeat' (first | with_reducible exact S2 | with_reducible refine Saves.setNew ?_ ?_ _ | (simp only; omega))
end Go.Proofs.YteicnjemaemijaaGreatDoor
