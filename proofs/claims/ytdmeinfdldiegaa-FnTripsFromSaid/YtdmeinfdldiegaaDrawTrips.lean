/- What the reference's draw for the trips from a place answers. No condition. -/
import Derived.Test.YtdmeinfdldiegaaDrawNext
import Derived.Deep.RegionWith
import Derived.Deep.DeepCutAuto
namespace Go.Proofs.Ytdmeinfdldiegaa
open Go.RowKit Go.PlainAid
set_option maxRecDepth 100000
set_option linter.unusedVariables false
theorem okI_wrapT (n : Int) : okI (wrap64 n) := by
  unfold okI wrap64
  omega
/-- A drawn network, a place and two times. -/
def TripsD (w : World) (e : Ending) (w' : World) : Prop := ∃ (A Ao : Option Addr) (cl co : Nat) (legs : List LegD) (off : List Int) (ch : Int) (p : ByteArray) (a b : Int), e = .returned (.tuple #[.agg #[.slice A legs.length cl, .slice Ao off.length co, .int .i64 ch], .string p, .int .i64 a, .int .i64 b]) ∧
  SliceOf w' 6 LegD.vals (.slice A legs.length cl) legs ∧ (∀ x ∈ legs, x.ok) ∧ SliceOf w' 1 vI (.slice Ao off.length co) off ∧ (∀ x ∈ off, okI x) ∧ okI ch ∧ okI a ∧ okI b ∧ Below w.heap.size w w'
theorem leg_from {w : World} {A : Option Addr} {cl : Nat} {legs : List LegD} {b off : Nat} (hA : A = some ⟨b, off, none⟩) (h : SliceOf w 6 LegD.vals (.slice A legs.length cl) legs) (k : Nat) (hk : k < legs.length) : ∃ f : ByteArray, w.cell? ⟨b, off + k * 6, none⟩ = some (.string f) := by
  obtain ⟨b', off', x, e, hb, hx, hc⟩ := h.cells hk
  rw [hA] at e; injection e with e; injection e with e1 e2; subst e1 e2
  exact ⟨x.src, hc 0 _ rfl⟩
theorem leg_base {w : World} {A : Option Addr} {cl : Nat} {legs : List LegD} (h : SliceOf w 6 LegD.vals (.slice A legs.length cl) legs) (hk : 1 ≤ legs.length) : ∃ b off, A = some ⟨b, off, none⟩ := by
  obtain ⟨b', off', x, e, hb, hx, hc⟩ := h.cells (show 0 < legs.length by omega)
  exact ⟨b', off', e⟩
/-- A drawn network in the variable g, the result still empty. -/
structure NetIn (w : World) (C g lo : Nat) (wx : World) (A Ao : Option Addr) (cl co : Nat) (legs : List LegD) (off : List Int) (ch : Int) : Prop where
  Q : Box wx g 31 #[.slice A legs.length cl, .slice Ao off.length co, .int .i64 ch]
  P : Box wx w.heap.size 31 #[.slice none 0 0, .slice none 0 0, .int .i64 0]
  cur : Cur C wx
  sl : SliceOf wx 6 LegD.vals (.slice A legs.length cl) legs
  so : SliceOf wx 1 vI (.slice Ao off.length co) off
  ok : ∀ x ∈ legs, x.ok
  oF : ∀ x ∈ off, okI x
  oc : okI ch
  n1 : 1 ≤ legs.length
  n2 : legs.length ≤ 21
  aw1 : ∀ b off, A = some ⟨b, off, none⟩ → lo ≤ b
  aw2 : ∀ b off, Ao = some ⟨b, off, none⟩ → lo ≤ b
  bel : Below w.heap.size w wx
  hPC : w.heap.size < C
  hCl : C < lo
  hlg : lo ≤ g
theorem NetIn.saves {w wx wy : World} {C g lo : Nat} {A Ao : Option Addr} {cl co : Nat} {legs : List LegD} {off : List Int} {ch : Int} (h : NetIn w C g lo wx A Ao cl co legs off ch) (s : Saves C wx wy) (hc : Cur C wy) : NetIn w C g lo wy A Ao cl co legs off ch := by
  obtain ⟨Q, P, cur, sl, so, ok, oF, oc, n1, n2, aw1, aw2, bel, hPC, hCl, hlg⟩ := h
  exact ⟨Q.saves s (by omega), P.saves s (by omega), hc, slice_savesT sl s (fun b off n c e => by injection e with e1 e2 e3; have := aw1 b off e1; omega), slice_savesT so s (fun b o n c e => by injection e with e1 e2 e3; have := aw2 b o e1; omega), ok, oF, oc, n1, n2, aw1, aw2, s.belT bel (by omega), hPC, hCl, hlg⟩
theorem NetIn.keep {w wx wy : World} {C g lo : Nat} {A Ao : Option Addr} {cl co : Nat} {legs : List LegD} {off : List Int} {ch : Int} (h : NetIn w C g lo wx A Ao cl co legs off ch) (b : Below wx.heap.size wx wy) : NetIn w C g lo wy A Ao cl co legs off ch := by
  obtain ⟨Q, P, cur, sl, so, ok, oF, oc, n1, n2, aw1, aw2, bel, hPC, hCl, hlg⟩ := h
  exact ⟨Q.keep b, P.keep b, cur.keep b, sl.keep b (Nat.le_refl _), so.keep b (Nat.le_refl _), ok, oF, oc, n1, n2, aw1, aw2, chain bel b, hPC, hCl, hlg⟩
/-- Another network stored into the variable. -/
theorem NetIn.store {w wx : World} {C g lo : Nat} {A Ao A' Ao' : Option Addr} {cl co cl' co' : Nat} {legs legs' : List LegD} {off off' : List Int} {ch ch' : Int} (h : NetIn w C g lo wx A Ao cl co legs off ch)
    (sl' : SliceOf wx 6 LegD.vals (.slice A' legs'.length cl') legs') (so' : SliceOf wx 1 vI (.slice Ao' off'.length co') off') (ok : ∀ x ∈ legs', x.ok) (oF : ∀ x ∈ off', okI x) (oc : okI ch') (n1 : 1 ≤ legs'.length) (n2 : legs'.length ≤ 21) (aw1 : ∀ b off, A' = some ⟨b, off, none⟩ → g < b) (aw2 : ∀ b off, Ao' = some ⟨b, off, none⟩ → g < b) :
    NetIn w C g lo (((wx.setCell ⟨g, 0, none⟩ (.slice A' legs'.length cl')).setCell ⟨g, 1, none⟩ (.slice Ao' off'.length co')).setCell ⟨g, 2, none⟩ (.int .i64 ch')) A' Ao' cl' co' legs' off' ch' := by
  obtain ⟨Q, P, cur, sl, so, ok0, oF0, oc0, n10, n20, aw10, aw20, bel, hPC, hCl, hlg⟩ := h
  refine ⟨((Q.set 0 _).set 1 _).set 2 _, ((P.far (by simp only; omega) _).far (by simp only; omega) _).far (by simp only; omega) _, ((cur.setB (by simp only; omega) _).setB (by simp only; omega) _).setB (by simp only; omega) _, ?_, ?_, ok, oF, oc, n1, n2, fun b off e => by have := aw1 b off e; omega, fun b off e => by have := aw2 b off e; omega, ((bel.setCell (by simp only; omega) _).setCell (by simp only; omega) _).setCell (by simp only; omega) _, hPC, hCl, hlg⟩
  · exact slice_setA (slice_setA (slice_setA sl' (fun b off n c e => by injection e with e1 e2 e3; have := aw1 b off e1; simp only; omega) _) (fun b off n c e => by injection e with e1 e2 e3; have := aw1 b off e1; simp only; omega) _) (fun b off n c e => by injection e with e1 e2 e3; have := aw1 b off e1; simp only; omega) _
  · exact slice_setA (slice_setA (slice_setA so' (fun b off n c e => by injection e with e1 e2 e3; have := aw2 b off e1; simp only; omega) _) (fun b off n c e => by injection e with e1 e2 e3; have := aw2 b off e1; simp only; omega) _) (fun b off n c e => by injection e with e1 e2 e3; have := aw2 b off e1; simp only; omega) _
theorem trips_end {w w20 : World} {C lo bb bo : Nat} {Ao : Option Addr} {cl co : Nat} {legs : List LegD} {off : List Int} {ch tm um : Int} (ha : lo ≤ bb) (aw2 : ∀ b off, Ao = some ⟨b, off, none⟩ → lo ≤ b) (hPC : w.heap.size < C) (hCl : C < lo)
    (sl : SliceOf w20 6 LegD.vals (.slice (some ⟨bb, bo, none⟩) legs.length cl) legs) (ok : ∀ x ∈ legs, x.ok) (so : SliceOf w20 1 vI (.slice Ao off.length co) off) (oF : ∀ x ∈ off, okI x) (oc : okI ch) (ot : okI tm) (ou : okI um) (B : Below w.heap.size w w20) (f : ByteArray) :
    TripsD w (.returned (.tuple #[.agg #[.slice (some ⟨bb, bo, none⟩) legs.length cl, .slice Ao off.length co, .int .i64 ch], .string f, .int .i64 tm, .int .i64 um])) (((w20.setCell ⟨w.heap.size, 0, none⟩ (.slice (some ⟨bb, bo, none⟩) legs.length cl)).setCell ⟨w.heap.size, 1, none⟩ (.slice Ao off.length co)).setCell ⟨w.heap.size, 2, none⟩ (.int .i64 ch)) := by
  refine ⟨some ⟨bb, bo, none⟩, Ao, cl, co, legs, off, ch, f, tm, um, rfl, ?_, ok, ?_, oF, oc, ot, ou, ?_⟩
  · exact slice_setA (slice_setA (slice_setA sl (fun b off n c e => by injection e with e1 e2 e3; injection e1 with e1; injection e1 with e4 e5; simp only; omega) _) (fun b off n c e => by injection e with e1 e2 e3; injection e1 with e1; injection e1 with e4 e5; simp only; omega) _) (fun b off n c e => by injection e with e1 e2 e3; injection e1 with e1; injection e1 with e4 e5; simp only; omega) _
  · exact slice_setA (slice_setA (slice_setA so (fun b off n c e => by injection e with e1 e2 e3; have := aw2 b off e1; simp only; omega) _) (fun b off n c e => by injection e with e1 e2 e3; have := aw2 b off e1; simp only; omega) _) (fun b off n c e => by injection e with e1 e2 e3; have := aw2 b off e1; simp only; omega) _
  · exact ((B.setCell (Nat.le_refl _) _).setCell (Nat.le_refl _) _).setCell (Nat.le_refl _) _
set_option maxHeartbeats 12800000 in
theorem drawTrips_any (cs : List Int) (v : Value) (w : World) (h : SliceOf w 1 vB v cs) : Calls Try.prog 15 #[v] w (TripsD w) := by
  obtain ⟨A0, c0, rfl, hle, hm⟩ := h.form
  go_enter Try.func15, Try.ntmps15
  go_wp2_with fail
  obtain ⟨W, hW⟩ : ∃ W, W = w.alloc (.cells #[.slice none 0 0, .slice none 0 0, .int .i64 0] 31) := ⟨_, rfl⟩
  rw [← hW]
  have P : Box W w.heap.size 31 #[.slice none 0 0, .slice none 0 0, .int .i64 0] := by rw [hW]; exact Box.new _ _ _
  have bW : Below w.heap.size w W := by rw [hW]; go_grown
  have zW : W.heap.size = w.heap.size + 1 := by rw [hW]; simp
  clear hW
  refine (new_any cs _ _ (h.keep bW (Nat.le_refl _))).mono ?_
  rintro e w1 ⟨C, hC, rfl, c1, b1⟩
  replace P := P.keep b1
  have B1 := chain bW b1
  have lt1 := c1.lt
  have hWC : w.heap.size < C := by omega
  have lw1 : w.heap.size + 1 ≤ w1.heap.size := by have := b1.size; omega
  clear zW
  go_wp2_with fail
  refine (net_any C _ c1).mono ?_
  rintro e w2 ⟨lv, ov, legs, off, ch, rfl, hO, hL, n1, n12, hF, okF, lF, hch, hap, c2, s2⟩
  have z12 := s2.size
  obtain ⟨A, cl, rfl, -, -⟩ := hO.form
  obtain ⟨Ao, co, rfl, -, -⟩ := hF.form
  have sl := hO.slice Leg_len (by omega)
  have so := hF.slice vI_len (by omega)
  have aw1 : ∀ b off, A = some ⟨b, off, none⟩ → w1.heap.size ≤ b := fun b o e => own_awayL hO b o _ _ (by rw [e])
  have aw2 : ∀ b off, Ao = some ⟨b, off, none⟩ → w1.heap.size ≤ b := fun b o e => own_awayL hF b o _ _ (by rw [e])
  have hLk : ∀ x ∈ legs, x.ok := fun x hx => (hL x hx).ok
  have oF : ∀ x ∈ off, okI x := fun x hx => by have := okF x hx; unfold okI; omega
  have oc : okI ch := by unfold okI; omega
  replace P := P.saves s2 (by omega)
  have B2 := s2.belT B1 (by omega)
  clear hO hL hF okF hap s2 hch lF
  go_wp2_with fail
  obtain ⟨w3, hV⟩ : ∃ V, V = w2.alloc (.cells #[.slice A legs.length cl, .slice Ao off.length co, .int .i64 ch] 31) := ⟨_, rfl⟩
  rw [← hV]
  obtain ⟨g, hg⟩ : ∃ g, g = w2.heap.size := ⟨_, rfl⟩
  rw [← hg]
  have Q : Box w3 g 31 #[.slice A legs.length cl, .slice Ao off.length co, .int .i64 ch] := by rw [hV, hg]; exact Box.new _ _ _
  have bV : Below w2.heap.size w2 w3 := by rw [hV]; go_grown
  clear hV
  have c3 := c2.keep bV
  replace P := P.keep bV
  replace sl := sl.keep bV (Nat.le_refl _)
  replace so := so.keep bV (Nat.le_refl _)
  have B3 := chain B2 bV
  have lg := Q.lt
  have lC2 := c2.lt
  have gC : C < g := by omega
  have gP : w.heap.size < g := by omega
  clear bV c2 B2 hg
  have hN : NetIn w C g (C + 1) w3 A Ao cl co legs off ch := ⟨Q, P, c3, sl, so, hLk, oF, oc, n1, by omega, fun b off e => by have := aw1 b off e; omega, fun b off e => by have := aw2 b off e; omega, B3, hWC, by omega, by omega⟩
  clear Q P sl so B3 lg lC2 aw1 aw2
  refine (once_any C 6 _ c3 (by unfold okI; omega)).mono ?_
  rintro e w4 ⟨u, rfl, c4, s4⟩
  replace hN := hN.saves s4 c4
  have z34 := s4.size
  clear s4 c3 c4
  go_upto_if 15 with fail
  go_cut [] from 16 (fun wx => ∃ (A Ao : Option Addr) (cl co : Nat) (legs : List LegD) (off : List Int) (ch : Int), NetIn w C g (C + 1) wx A Ao cl co legs off ch)
  case first =>
    cases u
    · go_wp2_with fail
      go_meet
      case rel => exact ⟨A, Ao, cl, co, legs, off, ch, hN⟩
    · go_wp2_with fail
      refine (anyNet_any C _ hN.cur).mono ?_
      rintro e w5 ⟨lv, ov, legs', off', ch', rfl, sl5', hLk', m1, m21, so5', oF', lF', oc', bw1, bw2, c5, s5⟩
      obtain ⟨A', cl', rfl, -, -⟩ := sl5'.form
      obtain ⟨Ao', co', rfl, -, -⟩ := so5'.form
      have lg4 := hN.Q.lt
      replace hN := hN.saves s5 c5
      have q0 : w5.cell? ⟨g, 0, none⟩ = some (.slice A legs.length cl) := hN.Q.cell 0
      have q1 : w5.cell? ⟨g, 1, none⟩ = some (.slice Ao off.length co) := hN.Q.cell 1
      have q2 : w5.cell? ⟨g, 2, none⟩ = some (.int .i64 ch) := hN.Q.cell 2
      have qf : ∀ j, w5.frozen? ⟨g, j, none⟩ = false := fun j => hN.Q.frozen j
      have HST := Lib.hid (hN.store sl5' so5' hLk' oF' oc' m1 m21 (fun b o e => by have := bw1 b o _ _ (by rw [e]); omega) (fun b o e => by have := bw2 b o _ _ (by rw [e]); omega))
      clear sl5' so5' bw1 bw2 s5 c5 hN
      go_wp2_with fail
      go_meet
      case rel => exact ⟨A', Ao', cl', co', legs', off', ch', HST.out⟩
  case rest =>
  clear hN
  obtain ⟨A, Ao, cl, co, legs, off, ch, hN⟩ := hcut
  go_wp2_with fail
  refine (time_any C _ hN.cur).mono ?_
  rintro e w5 ⟨tm, rfl, otm, c5, s5⟩
  replace hN := hN.saves s5 c5
  clear s5
  go_wp2_with fail
  have hS := lit_slice (f := Value.int .i64) (vals := vI) (fun _ => rfl) [0, 30, 1440, 10000] 3 w5 #[.int .i64 0, .int .i64 30, .int .i64 1440, .int .i64 10000] rfl (by unfold maxLen; simp)
  have bS : Below w5.heap.size w5 (w5.alloc (.cells #[.int .i64 0, .int .i64 30, .int .i64 1440, .int .i64 10000] 3)) := by go_grown
  refine (int_any C [0, 30, 1440, 10000] _ _ (c5.keep bS) (by intro z hz; simp at hz; unfold okI; omega) (by simp) hS (fun b off n c hv => by have := c5.lt; injection hv with e1 e2 e3; injection e1 with e1; injection e1 with e1 e2; omega)).mono ?_
  rintro e w6 ⟨nn, rfl, hm8, c6, s6⟩
  replace hN := (hN.keep bS).saves s6 c6
  clear c5 hS bS s6 hm8
  obtain ⟨un, hun⟩ : ∃ un, un = wrap64 (tm + nn) := ⟨_, rfl⟩
  have oun : okI un := by rw [hun]; exact okI_wrapT _
  have HUN := Lib.hid hun.symm
  go_upto_region 7 with fail
  rw [HUN.out]
  clear hun
  go_wp2_with fail
  refine (once_any C 6 _ c6 (by unfold okI; omega)).mono ?_
  rintro e w7 ⟨u8, rfl, c7, s7⟩
  replace hN := hN.saves s7 c7
  clear s7 c6
  go_upto_if 26 with fail
  go_cut [9] from 27 (fun uv wx => ∃ um : Int, uv = .int .i64 um ∧ okI um ∧ NetIn w C g (C + 1) wx A Ao cl co legs off ch)
  case first =>
    cases u8
    · go_wp2_with fail
      go_meet
      case rel => exact ⟨un, rfl, oun, hN⟩
    · go_wp2_with fail
      refine (time_any C _ c7).mono ?_
      rintro e w8 ⟨um, rfl, oum, c8, s8⟩
      replace hN := hN.saves s8 c8
      go_wp2_with fail
      go_meet
      case rel => exact ⟨um, rfl, oum, hN⟩
  case rest =>
  clear hN c7 oun HUN
  obtain ⟨um, rfl, oum, hN⟩ := hcut
  obtain ⟨wt, rfl⟩ : ∃ wt : World, wt = wc := ⟨_, rfl⟩
  obtain ⟨bb, bo, hA⟩ := leg_base hN.sl hN.n1
  subst hA
  obtain ⟨Q, P, cur, sl, so, hLk, oF, oc, n1, n2, aw1, aw2, bel, hPC, hCl, hlg⟩ := hN
  have awb := aw1 bb bo rfl
  have nbC : bb ≠ C := by omega
  have LF := fun k hk => leg_from rfl sl k hk
  have p0 : wt.cell? ⟨w.heap.size, 0, none⟩ = some (.slice none 0 0) := P.cell 0
  have p1 : wt.cell? ⟨w.heap.size, 1, none⟩ = some (.slice none 0 0) := P.cell 1
  have p2 : wt.cell? ⟨w.heap.size, 2, none⟩ = some (.int .i64 0) := P.cell 2
  have pf : ∀ j, wt.frozen? ⟨w.heap.size, j, none⟩ = false := fun j => P.frozen j
  have q0 : wt.cell? ⟨g, 0, none⟩ = some (.slice (some ⟨bb, bo, none⟩) legs.length cl) := Q.cell 0
  have q1 : wt.cell? ⟨g, 1, none⟩ = some (.slice Ao off.length co) := Q.cell 1
  have q2 : wt.cell? ⟨g, 2, none⟩ = some (.int .i64 ch) := Q.cell 2
  have ngC : g ≠ C := by omega
  have nPC : w.heap.size ≠ C := by omega
  have nPg : ¬ w.heap.size = g := by omega
  have ngP : ¬ g = w.heap.size := by omega
  have nPb : ¬ w.heap.size = bb := by omega
  have nbP : ¬ bb = w.heap.size := by omega
  have lP := P.lt
  have HLF := Lib.hid LF; clear LF
  have HSL := Lib.hid sl; have HSO := Lib.hid so; have HLK := Lib.hid hLk; have HOF := Lib.hid oF; have HBE := Lib.hid bel; have HA1 := Lib.hid awb; have HA2 := Lib.hid aw2; have HPC := Lib.hid hPC; have HCL := Lib.hid hCl
  have n20 := Lib.hid n2
  clear sl so hLk oF bel awb aw1 aw2 P Q hCl hlg n2
  clear lt1 lw1 z12 z34 gC gP hWC hPC hC
  go_upto_region 9 with fail
  go_cut [3, 4, 5] from 29 to 41 (fun a b c wx => ∃ (w20 : World) (f : ByteArray), a = .string f ∧ b = .int .i64 tm ∧ c = .int .i64 um ∧ Saves C wt.drew w20 ∧ wx = (((w20.setCell ⟨w.heap.size, 0, none⟩ (.slice (some ⟨bb, bo, none⟩) legs.length cl)).setCell ⟨w.heap.size, 1, none⟩ (.slice Ao off.length co)).setCell ⟨w.heap.size, 2, none⟩ (.int .i64 ch)))
  case first =>
    go_wp2_with fail
    go_region_with (go_at_call 45; refine (belowN_at (w0 := wt.drew) legs.length (by omega) (by have := n20.out; omega) (curN_drew cur) (Saves.refl _ _)).mono ?_; rintro e w20 ⟨lg0, rfl, hlg0, c20, -, s20⟩; have q0' := Saves.at' s20 q0 ngC; have q1' := Saves.at' s20 q1 ngC; have q2' := Saves.at' s20 q2 ngC; have p0' := Saves.at' s20 p0 nPC; have p1' := Saves.at' s20 p1 nPC; have p2' := Saves.at' s20 p2 nPC; have pf' : ∀ j, w20.frozen? ⟨w.heap.size, j, none⟩ = false := fun j => (s20.frozen (p := ⟨w.heap.size, j, none⟩) lP nPC).trans (pf j); have lgi : (lg0 : Int) < (legs.length : Int) := Int.ofNat_lt.2 hlg0; have lgj : (0 : Int) ≤ (lg0 : Int) := Int.natCast_nonneg _; obtain ⟨f, hf0⟩ := HLF.out lg0 hlg0; have hf := Saves.at' s20 hf0 nbC)
    all_goals
      go_wp2_with fail
      go_meet
      case rel => exact ⟨w20, f, rfl, rfl, rfl, s20, rfl⟩
  case rest =>
  obtain ⟨w20, f, rfl, rfl, rfl, s20, hwc⟩ := hcut
  have sl20 := slice_savesT (slice_drew HSL.out) s20 (fun b off n c e => by injection e with e1 e2 e3; injection e1 with e1; injection e1 with e4 e5; have := HA1.out; have := HCL.out; omega)
  have so20 := slice_savesT (slice_drew HSO.out) s20 (fun b o n c e => by injection e with e1 e2 e3; have := HA2.out b o e1; have := HCL.out; omega)
  have B20 := s20.belT HBE.out.drew (by have := HPC.out; omega)
  have p0' := Saves.at' s20 p0 nPC; have p1' := Saves.at' s20 p1 nPC; have p2' := Saves.at' s20 p2 nPC
  have HZ := Lib.hid (trips_end HA1.out HA2.out HPC.out HCL.out sl20 HLK.out so20 HOF.out oc otm oum B20 f)
  clear sl20 so20 B20 s20 q0 q1 q2 p0 p1 p2 pf HLF
  subst hwc
  go_wp2_with fail
  refine bodyPost_ret (v := .tuple #[.agg #[.slice (some ⟨bb, bo, none⟩) legs.length cl, .slice Ao off.length co, .int .i64 ch], .string f, .int .i64 tm, .int .i64 um]) (by simp [results, Try.results15, go_sem, p0', p1', p2']) rfl ?_
  exact HZ.out
end Go.Proofs.Ytdmeinfdldiegaa
