/- The law FnExactTripsFrom walked: it returns true. No condition. -/
import Derived.Test.YtdmeinfdldiegaaTripsS
import Derived.Test.YtdmeinfdldiegaaTripMark
import Derived.Test.YtdmeinfdldiegaaNetMark
import Derived.Deep.RegionHeld3
namespace Go.Proofs.Ytdmeinfdldiegaa
open Go.RowKit Go.PlainAid
set_option maxRecDepth 100000
set_option linter.unusedVariables false
set_option maxHeartbeats 6400000 in
theorem walk_ExactTripsFrom (u0 : Value) (u1 : Value) (u2 : Value) (u3 : Value) (w : World) (p0 : VNet w u0) (p1 : VStr u1) (p2 : VInt u2) (p3 : VInt u3) : Calls Try.prog 3 #[u0, u1, u2, u3] w fun e w' => e = .returned (.bool true) ∧ Below w.heap.size w w' := by
  obtain ⟨⟨legs, off, ch⟩, ⟨hok, hoff, hch⟩, l, o, rfl, sl, so⟩ := p0
  simp only at hok hoff hch sl so
  obtain ⟨A, c, rfl, -, -⟩ := sl.form
  obtain ⟨A', c', rfl, -, -⟩ := so.form
  obtain ⟨p, rfl, hp⟩ := p1
  obtain ⟨u, rfl, hu⟩ := p2
  obtain ⟨v, rfl, hv⟩ := p3
  by_cases hps : 1048576 < (p.size : Int)
  · go_enter Try.func3, Try.ntmps3
    go_wp2_with fail
    go_ret
    exact ⟨rfl, by go_grown⟩
  go_enter Try.func3, Try.ntmps3
  go_wp2_with fail
  obtain ⟨W, hW⟩ : ∃ W, W = w.alloc (.cells #[.slice A legs.length c, .slice A' off.length c', .int .i64 ch] 25) := ⟨_, rfl⟩
  rw [← hW]
  have a0 : W.cell? ⟨w.heap.size, 0, none⟩ = some (.slice A legs.length c) := by rw [hW]; simp [go_sem]
  have a1 : W.cell? ⟨w.heap.size, 1, none⟩ = some (.slice A' off.length c') := by rw [hW]; simp [go_sem]
  have a2 : W.cell? ⟨w.heap.size, 2, none⟩ = some (.int .i64 ch) := by rw [hW]; simp [go_sem]
  have B0 : Below w.heap.size w W := by rw [hW]; go_grown
  clear hW
  refine (szNet_any legs off ch _ _ _ _ hok (sl.keep B0 (Nat.le_refl _)) (so.keep B0 (Nat.le_refl _)) (by omega) (by omega)).mono ?_
  rintro e w1 ⟨r, rfl, r1, r2, r3, b1⟩
  replace a0 := cell_keep b1 a0
  replace a1 := cell_keep b1 a1
  replace a2 := cell_keep b1 a2
  have B1 := chain B0 b1
  by_cases hr : r < 0
  · go_wp2_with fail
    go_ret
    exact ⟨rfl, B1⟩
  have hn : legs.length ≤ 1048576 := by have := (r3 (by omega)).1; omega
  have hm : off.length ≤ 1048576 := by have := (r3 (by omega)).2; omega
  clear r1 r2 r3
  go_wp2_with fail
  refine (toNet_any legs off ch _ _ _ (sl.keep B1 (Nat.le_refl _)) (so.keep B1 (Nat.le_refl _)) hn hm).mono ?_
  rintro e w2 ⟨l2, o2, rfl, ol, oo, b2⟩
  replace a0 := cell_keep b2 a0
  replace a1 := cell_keep b2 a1
  replace a2 := cell_keep b2 a2
  have B2 := chain B1 b2
  have sl2 := ol.slice Leg_len (by omega)
  have so2 := oo.slice vI_len (by omega)
  go_wp2_with fail
  refine (tripsS legs off ch p u v _ _ _ hok sl2 so2).mono ?_
  rintro e w3 ⟨v1, L, rfl, o1, HI1, hL1, b3⟩
  replace a0 := cell_keep b3 a0
  replace a1 := cell_keep b3 a1
  replace a2 := cell_keep b3 a2
  have B3 := chain B2 b3
  have hLL : L.length ≤ 2097152 := by omega
  clear sl2 so2 ol oo b1 b2 b3 B0 B1 B2 hL1
  have Aa0 := a0
  have Aa1 := a1
  have Aa2 := a2
  have SA := sl.keep B3 (Nat.le_refl _)
  have SO := so.keep B3 (Nat.le_refl _)
  clear sl so
  go_wp2_with fail
  refine (toNet_any legs off ch _ _ _ SA SO hn hm).mono ?_
  rintro e w4 ⟨xl, xo, rfl, ol, oo, b4⟩
  replace a0 := cell_keep b4 a0
  replace a1 := cell_keep b4 a1
  replace a2 := cell_keep b4 a2
  obtain ⟨Ax, cx, rfl, -, -⟩ := ol.form
  obtain ⟨Ay, cy, rfl, -, -⟩ := oo.form
  go_wp2_with fail
  obtain ⟨X, hX⟩ : ∃ X, X = w4.alloc (.cells #[.slice Ax legs.length cx, .slice Ay off.length cy, .int .i64 ch] 31) := ⟨_, rfl⟩
  rw [← hX]
  have x0 : X.cell? ⟨w4.heap.size, 0, none⟩ = some (.slice Ax legs.length cx) := by rw [hX]; simp [go_sem]
  have x1 : X.cell? ⟨w4.heap.size, 1, none⟩ = some (.slice Ay off.length cy) := by rw [hX]; simp [go_sem]
  have x2 : X.cell? ⟨w4.heap.size, 2, none⟩ = some (.int .i64 ch) := by rw [hX]; simp [go_sem]
  have bX : Below w4.heap.size w4 X := by rw [hX]; go_grown
  have zX : w4.heap.size ≤ X.heap.size := bX.size
  clear hX
  replace a0 := cell_keep bX a0
  replace a1 := cell_keep bX a1
  replace a2 := cell_keep bX a2
  have C4 : Below w3.heap.size w3 X := chain b4 bX
  have z4 := b4.size
  have h1 : ∀ g, (Value.slice Ax legs.length cx).ownBlock = some g → g < X.heap.size := fun g hg => by have := (World.ownsRow.lt ol g hg).2; omega
  have h2 : ∀ g, (Value.slice Ay off.length cy).ownBlock = some g → g < X.heap.size := fun g hg => by have := (World.ownsRow.lt oo g hg).2; omega
  have H1 := Lib.hid h1
  have H2 := Lib.hid h2
  replace ol := ol.keep bX (Nat.le_refl _)
  replace oo := oo.keep bX (Nat.le_refl _)
  clear b4 bX h1 h2
  refine (tripsI legs off ch p u v _ _ _ hok (ol.slice Leg_len (by omega)) (oo.slice vI_len (by omega))).mono ?_
  rintro e w5 ⟨v2, L2, rfl, o2, HI2, hL2, b5⟩
  obtain rfl := TripsAre.unique HI1.out HI2.out
  replace a0 := cell_keep b5 a0
  replace a1 := cell_keep b5 a1
  replace a2 := cell_keep b5 a2
  replace x0 := cell_keep b5 x0
  replace x1 := cell_keep b5 x1
  replace x2 := cell_keep b5 x2
  have C5 := chain C4 b5
  have z5 := b5.size
  replace ol := ol.keep b5 (Nat.le_refl _)
  replace oo := oo.keep b5 (Nat.le_refl _)
  clear b5 C4 HI2 hL2
  go_wp2_with fail
  refine (eqTripS_same L v2 v1 _ (o2.slice Trip_len (by omega)) ((o1.keep C5 (Nat.le_refl _)).slice Trip_len (by omega))).mono ?_
  rintro e w6 ⟨rfl, b6⟩
  replace a0 := cell_keep b6 a0
  replace a1 := cell_keep b6 a1
  replace a2 := cell_keep b6 a2
  replace x0 := cell_keep b6 x0
  replace x1 := cell_keep b6 x1
  replace x2 := cell_keep b6 x2
  have C6 := chain C5 b6
  have z6 := b6.size
  replace ol := ol.keep b6 (Nat.le_refl _)
  replace oo := oo.keep b6 (Nat.le_refl _)
  replace o2 := o2.keep b6 (Nat.le_refl _)
  clear b6 C5
  have b6r := Below.refl w6.heap.size w6
  go_wp2_with fail
  go_region_held3 (fun Q => Q.cell? ⟨w.heap.size, 0, none⟩ = some (.slice A legs.length c) ∧ Q.cell? ⟨w.heap.size, 1, none⟩ = some (.slice A' off.length c') ∧ Q.cell? ⟨w.heap.size, 2, none⟩ = some (.int .i64 ch) ∧ Q.cell? ⟨w4.heap.size, 0, none⟩ = some (.slice Ax legs.length cx) ∧ Q.cell? ⟨w4.heap.size, 1, none⟩ = some (.slice Ay off.length cy) ∧ Q.cell? ⟨w4.heap.size, 2, none⟩ = some (.int .i64 ch) ∧ Below w6.heap.size w6 Q) (((try go_split_ands); refine ⟨?_, ?_, ?_, ?_, ?_, ?_, ?_⟩ <;> first | assumption | exact (Below.refl _ _).drew | (apply cell_keep <;> assumption) | (apply Below.drew; assumption) | (apply chain' <;> assumption))) (first | (go_at_call 7; (try go_split_ands); refine (toNet_any legs off ch _ _ _ ((SA.keep C6 (Nat.le_refl _)).keep (by assumption) (Nat.le_refl _)) ((SO.keep C6 (Nat.le_refl _)).keep (by assumption) (Nat.le_refl _)) hn hm).mono ?_; rintro e wA ⟨l9, o9, rfl, ol9, oo9, bA⟩; have sl9 := ol9.slice Leg_len (by omega); have so9 := oo9.slice vI_len (by omega)) | (go_at_call 10; (try go_split_ands); refine (eqNet_same legs off ch _ _ _ _ _ ((ol.keep (by assumption) (Nat.le_refl _)).slice Leg_len (by omega)) ((oo.keep (by assumption) (Nat.le_refl _)).slice vI_len (by omega)) sl9 so9).mono ?_; rintro e wB ⟨rfl, bB⟩))
  (try go_split_ands)
  have b7 : Below w6.heap.size w6 wB := by assumption
  replace a0 := cell_keep b7 a0
  replace a1 := cell_keep b7 a1
  replace a2 := cell_keep b7 a2
  replace x0 := cell_keep b7 x0
  replace x1 := cell_keep b7 x1
  replace x2 := cell_keep b7 x2
  have C7 := chain C6 b7
  have z7 := b7.size
  replace ol := ol.keep b7 (Nat.le_refl _)
  replace oo := oo.keep b7 (Nat.le_refl _)
  replace o2 := o2.keep b7 (Nat.le_refl _)
  clear C6 ol9 oo9 sl9 so9 bA bB b6r
  go_wp2_with fail
  refine (markNet_any legs off ch _ _ _ w3.heap.size ol oo (by omega) hn hm X.heap.size H1.out H2.out).mono ?_
  rintro e w8 ⟨k, rfl, hk0, t8⟩
  have hk1 : ¬ k < 0 := by omega
  have C8 : Below w3.heap.size w3 w8 := C7.trans (t8.below (by omega))
  have z8 := t8.size
  replace o2 := o2.between t8 (Nat.le_refl _)
  clear t8 ol oo x0 x1 x2 C7 hk0 H1 H2 b7
  go_wp2_with fail
  refine (eqTripS_same L v2 v1 _ (o2.slice Trip_len (by omega)) ((o1.keep C8 (Nat.le_refl _)).slice Trip_len (by omega))).mono ?_
  rintro e w9 ⟨rfl, b9⟩
  have C9 := chain C8 b9
  have z9 := b9.size
  replace o2 := o2.keep b9 (Nat.le_refl _)
  clear C8 b9
  obtain ⟨M, hM⟩ : ∃ M : Int, M = ((1 + 2 * L.length : Nat) : Int) := ⟨_, rfl⟩
  have m0 : ¬ M < 0 := by omega
  have MK := markTrips_any L v2 1 _ _ o2 (by omega) (by omega) (by omega)
  rw [← hM] at MK
  have HD := fun (Q : World) (s : SliceOf Q 2 TripD.vals v2 (marksT 1 L.length)) => heldTripsB L.length v2 1 Q s (by omega) (by omega)
  rw [← hM] at HD
  have HH := Lib.hid HD
  clear HD hM
  go_wp2_with fail
  refine MK.mono ?_
  rintro e w10 ⟨rfl, m2, g10⟩
  clear MK
  have C10 : Below w3.heap.size w3 w10 := C9.trans ((o2.grownM g10 (by omega)).mono (by omega))
  have z10 := g10.size
  clear C9 g10 o2
  go_wp2_with fail
  refine (HH.out _ (m2.slice Trip_len (by omega))).mono ?_
  rintro e w11 ⟨rfl, b11⟩
  have C11 := chain C10 b11
  have z11 := b11.size
  replace m2 := m2.keep b11 (Nat.le_refl _)
  clear b11 C10
  have a0 : w11.cell? ⟨w.heap.size, 0, none⟩ = some (.slice A legs.length c) := cell_keep C11 Aa0
  have a1 : w11.cell? ⟨w.heap.size, 1, none⟩ = some (.slice A' off.length c') := cell_keep C11 Aa1
  have a2 : w11.cell? ⟨w.heap.size, 2, none⟩ = some (.int .i64 ch) := cell_keep C11 Aa2
  go_wp2_with fail
  refine (toNet_any legs off ch _ _ _ (SA.keep C11 (Nat.le_refl _)) (SO.keep C11 (Nat.le_refl _)) hn hm).mono ?_
  rintro e w12 ⟨l3, o3, rfl, ol3, oo3, b12⟩
  have C12 := chain C11 b12
  have z12 := b12.size
  replace m2 := m2.keep b12 (Nat.le_refl _)
  clear b12 C11
  go_wp2_with fail
  refine (tripsI legs off ch p u v _ _ _ hok (ol3.slice Leg_len (by omega)) (oo3.slice vI_len (by omega))).mono ?_
  rintro e w13 ⟨v3, L3, rfl, o4, HI3, hL3, b13⟩
  obtain rfl := TripsAre.unique HI1.out HI3.out
  have C13 := chain C12 b13
  have z13 := b13.size
  replace m2 := m2.keep b13 (Nat.le_refl _)
  clear b13 C12
  go_wp2_with fail
  refine (eqTripS_same L v3 v1 _ (o4.slice Trip_len (by omega)) ((o1.keep C13 (Nat.le_refl _)).slice Trip_len (by omega))).mono ?_
  rintro e w14 ⟨rfl, b14⟩
  have C14 := chain C13 b14
  have z14 := b14.size
  replace m2 := m2.keep b14 (Nat.le_refl _)
  clear b14 C13
  go_wp2_with fail
  refine (HH.out _ (m2.slice Trip_len (by omega))).mono ?_
  rintro e w15 ⟨rfl, b15⟩
  have C15 := chain C14 b15
  have z15 := b15.size
  replace m2 := m2.keep b15 (Nat.le_refl _)
  clear b15 C14
  go_wp2_with fail
  go_ret
  exact ⟨rfl, chain B3 C15⟩
end Go.Proofs.Ytdmeinfdldiegaa
