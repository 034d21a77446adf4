/- What PriceOf answers: the program's and the reference's alike. No condition. -/
import Derived.Test.YteolobffmldfhaaParcel
import Derived.Test.YteolobffmldfhaaZoneOf
import Derived.Test.YteolobffmldfhaaRates
namespace Go.Proofs.Yteolobffmldfhaa
open Go.RowKit Go.PlainAid
set_option maxRecDepth 100000
set_option linter.unusedVariables false
/-- A rate for the zone and the service that takes the weight. -/
def fitR (z s cw : Int) (r : RateD) : Bool := decide (r.zone = z) && decide (r.service = s) && decide (cw ≤ r.limit)
def pfind (z s cw : Int) : List RateD → Option Int
  | [] => none
  | r :: rest => if fitR z s cw r then some r.price else pfind z s cw rest
def priceOpt (zs : List ZoneD) (rs : List RateD) (a b : Int) (t f : ByteArray) (wt : Int) (xs : List Int) (vl : Int) : Option Int :=
  if zonesB zs && ratesB rs (zs.length : Int) && parB a b t f wt xs vl then pfind (zoneOf zs t) a (chargeW a b t f wt xs vl) rs else none
def pV : Option Int → Int
  | none => 0
  | some x => x
theorem pfind_hit {z s cw : Int} : ∀ {rs : List RateD} {k : Nat} {r : RateD}, rs[k]? = some r → fitR z s cw r = true → (∀ (j : Nat) (y : RateD), j < k → rs[j]? = some y → fitR z s cw y = false) → pfind z s cw rs = some r.price
  | [], k, r, h, _, _ => by simp at h
  | y :: q, 0, r, h, hz, _ => by simp at h; subst h; simp [pfind, hz]
  | y :: q, k + 1, r, h, hz, hn => by
    have h0 := hn 0 y (by omega) rfl
    simp only [pfind, h0]
    rw [if_neg (by simp), pfind_hit (rs := q) (k := k) (by simpa using h) hz (fun j y' hj hy => hn (j + 1) y' (by omega) (by simpa using hy))]
theorem pfind_none {z s cw : Int} : ∀ {rs : List RateD}, (∀ (j : Nat) (y : RateD), rs[j]? = some y → fitR z s cw y = false) → pfind z s cw rs = none
  | [], _ => rfl
  | y :: q, hn => by
    have h0 := hn 0 y rfl
    simp only [pfind, h0]
    rw [if_neg (by simp)]
    exact pfind_none (fun j y' hy => hn (j + 1) y' (by simpa using hy))
theorem extend {z s cw : Int} {rs : List RateD} {k : Nat} {r : RateD} (H : ∀ (j : Nat) (y : RateD), j < k → rs[j]? = some y → fitR z s cw y = false) (hr : rs[k]? = some r) (h : fitR z s cw r = false) : ∀ (j : Nat) (y : RateD), j < k + 1 → rs[j]? = some y → fitR z s cw y = false := by
  intro j y hj hy
  by_cases e : j = k
  · subst e
    obtain rfl : r = y := by have := hr.symm.trans hy; injection this
    exact h
  · exact H j y (by omega) hy
def PriceP (q : Option Int) (w : World) (e : Ending) (w' : World) : Prop := e = .returned (.tuple #[.int .i64 (pV q), .bool q.isSome]) ∧ Below w.heap.size w w'
theorem ret_price {x : Int} {o : Bool} {q : Option Int} (h1 : pV q = x) (h2 : q.isSome = o) : Ending.returned (.tuple #[.int .i64 x, .bool o]) = .returned (.tuple #[.int .i64 (pV q), .bool q.isSome]) := by rw [h1, h2]
set_option maxHeartbeats 6400000 in
theorem priceI (zs : List ZoneD) (rs : List RateD) (a b : Int) (t f : ByteArray) (wt : Int) (xs : List Int) (vl : Int) (vz vr V : Value) (w : World) (hokz : ∀ x ∈ zs, x.ok) (hokr : ∀ x ∈ rs, x.ok) (ha : okI a) (ht : t.size ≤ maxLen) (hf : f.size ≤ maxLen)
    (hz : SliceOf w 2 ZoneD.vals vz zs) (hr : SliceOf w 4 RateD.vals vr rs) (sl : SliceOf w 1 vI V xs) : Calls Try.prog 37 #[vz, vr, .agg #[.int .i64 a, .int .i64 b, .string t, .string f, .int .i64 wt, V, .int .i64 vl]] w (PriceP (priceOpt zs rs a b t f wt xs vl) w) := by
  obtain ⟨Az, cz, rfl, hlz, hmz⟩ := hz.form
  obtain ⟨Ar, cr, rfl, hlr, hmr⟩ := hr.form
  obtain ⟨A, c, rfl, -, -⟩ := sl.form
  unfold maxLen at hmz hmr
  have hzn : okI (zs.length : Int) := by unfold okI; omega
  cases q1 : zonesB zs
  · have HV : Hid (priceOpt zs rs a b t f wt xs vl = none) := Lib.hid (by unfold priceOpt; rw [q1]; rfl)
    go_enter Try.func37, Try.ntmps37
    go_wp2_with fail
    obtain ⟨W, hW⟩ : ∃ W, W = w.alloc (.cells #[.int .i64 a, .int .i64 b, .string t, .string f, .int .i64 wt, .slice A xs.length c, .int .i64 vl] 41) := ⟨_, rfl⟩
    rw [← hW]
    have z0 : W.cell? ⟨w.heap.size, 0, none⟩ = some (.int .i64 a) := by rw [hW]; simp [go_sem]
    have z1 : W.cell? ⟨w.heap.size, 1, none⟩ = some (.int .i64 b) := by rw [hW]; simp [go_sem]
    have z2 : W.cell? ⟨w.heap.size, 2, none⟩ = some (.string t) := by rw [hW]; simp [go_sem]
    have z3 : W.cell? ⟨w.heap.size, 3, none⟩ = some (.string f) := by rw [hW]; simp [go_sem]
    have z4 : W.cell? ⟨w.heap.size, 4, none⟩ = some (.int .i64 wt) := by rw [hW]; simp [go_sem]
    have z5 : W.cell? ⟨w.heap.size, 5, none⟩ = some (.slice A xs.length c) := by rw [hW]; simp [go_sem]
    have z6 : W.cell? ⟨w.heap.size, 6, none⟩ = some (.int .i64 vl) := by rw [hW]; simp [go_sem]
    have B0 : Below w.heap.size w W := by rw [hW]; go_grown
    clear hW
    refine (areZonesI zs _ _ hokz (hz.keep B0 (Nat.le_refl _))).mono ?_
    rintro e w1 ⟨rfl, b1⟩
    have B1 := chain B0 b1
    replace z0 := cell_keep b1 z0
    replace z1 := cell_keep b1 z1
    replace z2 := cell_keep b1 z2
    replace z3 := cell_keep b1 z3
    replace z4 := cell_keep b1 z4
    replace z5 := cell_keep b1 z5
    replace z6 := cell_keep b1 z6
    rw [q1]
    go_wp2_with fail
    go_ret2
    exact ⟨ret_price (by rw [HV.out]; rfl) (by rw [HV.out]; rfl), B1⟩
  cases q2 : ratesB rs (zs.length : Int)
  · have HV : Hid (priceOpt zs rs a b t f wt xs vl = none) := Lib.hid (by unfold priceOpt; rw [q2]; simp)
    go_enter Try.func37, Try.ntmps37
    go_wp2_with fail
    obtain ⟨W, hW⟩ : ∃ W, W = w.alloc (.cells #[.int .i64 a, .int .i64 b, .string t, .string f, .int .i64 wt, .slice A xs.length c, .int .i64 vl] 41) := ⟨_, rfl⟩
    rw [← hW]
    have z0 : W.cell? ⟨w.heap.size, 0, none⟩ = some (.int .i64 a) := by rw [hW]; simp [go_sem]
    have z1 : W.cell? ⟨w.heap.size, 1, none⟩ = some (.int .i64 b) := by rw [hW]; simp [go_sem]
    have z2 : W.cell? ⟨w.heap.size, 2, none⟩ = some (.string t) := by rw [hW]; simp [go_sem]
    have z3 : W.cell? ⟨w.heap.size, 3, none⟩ = some (.string f) := by rw [hW]; simp [go_sem]
    have z4 : W.cell? ⟨w.heap.size, 4, none⟩ = some (.int .i64 wt) := by rw [hW]; simp [go_sem]
    have z5 : W.cell? ⟨w.heap.size, 5, none⟩ = some (.slice A xs.length c) := by rw [hW]; simp [go_sem]
    have z6 : W.cell? ⟨w.heap.size, 6, none⟩ = some (.int .i64 vl) := by rw [hW]; simp [go_sem]
    have B0 : Below w.heap.size w W := by rw [hW]; go_grown
    clear hW
    refine (areZonesI zs _ _ hokz (hz.keep B0 (Nat.le_refl _))).mono ?_
    rintro e w1 ⟨rfl, b1⟩
    have B1 := chain B0 b1
    replace z0 := cell_keep b1 z0
    replace z1 := cell_keep b1 z1
    replace z2 := cell_keep b1 z2
    replace z3 := cell_keep b1 z3
    replace z4 := cell_keep b1 z4
    replace z5 := cell_keep b1 z5
    replace z6 := cell_keep b1 z6
    rw [q1]
    go_wp2_with fail
    refine (areRatesI rs _ _ _ hokr hzn (hr.keep B1 (Nat.le_refl _))).mono ?_
    rintro e w2 ⟨rfl, b2⟩
    have B2 := chain B1 b2
    replace z0 := cell_keep b2 z0
    replace z1 := cell_keep b2 z1
    replace z2 := cell_keep b2 z2
    replace z3 := cell_keep b2 z3
    replace z4 := cell_keep b2 z4
    replace z5 := cell_keep b2 z5
    replace z6 := cell_keep b2 z6
    rw [q2]
    go_wp2_with fail
    go_ret2
    exact ⟨ret_price (by rw [HV.out]; rfl) (by rw [HV.out]; rfl), B2⟩
  cases q3 : parB a b t f wt xs vl
  · have HV : Hid (priceOpt zs rs a b t f wt xs vl = none) := Lib.hid (by unfold priceOpt; rw [q3]; simp)
    go_enter Try.func37, Try.ntmps37
    go_wp2_with fail
    obtain ⟨W, hW⟩ : ∃ W, W = w.alloc (.cells #[.int .i64 a, .int .i64 b, .string t, .string f, .int .i64 wt, .slice A xs.length c, .int .i64 vl] 41) := ⟨_, rfl⟩
    rw [← hW]
    have z0 : W.cell? ⟨w.heap.size, 0, none⟩ = some (.int .i64 a) := by rw [hW]; simp [go_sem]
    have z1 : W.cell? ⟨w.heap.size, 1, none⟩ = some (.int .i64 b) := by rw [hW]; simp [go_sem]
    have z2 : W.cell? ⟨w.heap.size, 2, none⟩ = some (.string t) := by rw [hW]; simp [go_sem]
    have z3 : W.cell? ⟨w.heap.size, 3, none⟩ = some (.string f) := by rw [hW]; simp [go_sem]
    have z4 : W.cell? ⟨w.heap.size, 4, none⟩ = some (.int .i64 wt) := by rw [hW]; simp [go_sem]
    have z5 : W.cell? ⟨w.heap.size, 5, none⟩ = some (.slice A xs.length c) := by rw [hW]; simp [go_sem]
    have z6 : W.cell? ⟨w.heap.size, 6, none⟩ = some (.int .i64 vl) := by rw [hW]; simp [go_sem]
    have B0 : Below w.heap.size w W := by rw [hW]; go_grown
    clear hW
    refine (areZonesI zs _ _ hokz (hz.keep B0 (Nat.le_refl _))).mono ?_
    rintro e w1 ⟨rfl, b1⟩
    have B1 := chain B0 b1
    replace z0 := cell_keep b1 z0
    replace z1 := cell_keep b1 z1
    replace z2 := cell_keep b1 z2
    replace z3 := cell_keep b1 z3
    replace z4 := cell_keep b1 z4
    replace z5 := cell_keep b1 z5
    replace z6 := cell_keep b1 z6
    rw [q1]
    go_wp2_with fail
    refine (areRatesI rs _ _ _ hokr hzn (hr.keep B1 (Nat.le_refl _))).mono ?_
    rintro e w2 ⟨rfl, b2⟩
    have B2 := chain B1 b2
    replace z0 := cell_keep b2 z0
    replace z1 := cell_keep b2 z1
    replace z2 := cell_keep b2 z2
    replace z3 := cell_keep b2 z3
    replace z4 := cell_keep b2 z4
    replace z5 := cell_keep b2 z5
    replace z6 := cell_keep b2 z6
    rw [q2]
    go_wp2_with fail
    refine (isParcelI a b t f wt xs vl _ _ ht hf (sl.keep B2 (Nat.le_refl _))).mono ?_
    rintro e w3 ⟨rfl, b3⟩
    have B3 := chain B2 b3
    replace z0 := cell_keep b3 z0
    replace z1 := cell_keep b3 z1
    replace z2 := cell_keep b3 z2
    replace z3 := cell_keep b3 z3
    replace z4 := cell_keep b3 z4
    replace z5 := cell_keep b3 z5
    replace z6 := cell_keep b3 z6
    rw [q3]
    go_wp2_with fail
    go_ret2
    exact ⟨ret_price (by rw [HV.out]; rfl) (by rw [HV.out]; rfl), B3⟩
  obtain ⟨zo, hzo⟩ : ∃ zo, zo = zoneOf zs t := ⟨_, rfl⟩
  obtain ⟨cw, hcw⟩ : ∃ cw, cw = chargeW a b t f wt xs vl := ⟨_, rfl⟩
  have HV : Hid (priceOpt zs rs a b t f wt xs vl = pfind zo a cw rs) := Lib.hid (by unfold priceOpt; rw [q1, q2, q3, hzo, hcw]; rfl)
  go_enter Try.func37, Try.ntmps37
  go_wp2_with fail
  obtain ⟨W, hW⟩ : ∃ W, W = w.alloc (.cells #[.int .i64 a, .int .i64 b, .string t, .string f, .int .i64 wt, .slice A xs.length c, .int .i64 vl] 41) := ⟨_, rfl⟩
  rw [← hW]
  have z0 : W.cell? ⟨w.heap.size, 0, none⟩ = some (.int .i64 a) := by rw [hW]; simp [go_sem]
  have z1 : W.cell? ⟨w.heap.size, 1, none⟩ = some (.int .i64 b) := by rw [hW]; simp [go_sem]
  have z2 : W.cell? ⟨w.heap.size, 2, none⟩ = some (.string t) := by rw [hW]; simp [go_sem]
  have z3 : W.cell? ⟨w.heap.size, 3, none⟩ = some (.string f) := by rw [hW]; simp [go_sem]
  have z4 : W.cell? ⟨w.heap.size, 4, none⟩ = some (.int .i64 wt) := by rw [hW]; simp [go_sem]
  have z5 : W.cell? ⟨w.heap.size, 5, none⟩ = some (.slice A xs.length c) := by rw [hW]; simp [go_sem]
  have z6 : W.cell? ⟨w.heap.size, 6, none⟩ = some (.int .i64 vl) := by rw [hW]; simp [go_sem]
  have B0 : Below w.heap.size w W := by rw [hW]; go_grown
  clear hW
  refine (areZonesI zs _ _ hokz (hz.keep B0 (Nat.le_refl _))).mono ?_
  rintro e w1 ⟨rfl, b1⟩
  have B1 := chain B0 b1
  replace z0 := cell_keep b1 z0
  replace z1 := cell_keep b1 z1
  replace z2 := cell_keep b1 z2
  replace z3 := cell_keep b1 z3
  replace z4 := cell_keep b1 z4
  replace z5 := cell_keep b1 z5
  replace z6 := cell_keep b1 z6
  rw [q1]
  go_wp2_with fail
  refine (areRatesI rs _ _ _ hokr hzn (hr.keep B1 (Nat.le_refl _))).mono ?_
  rintro e w2 ⟨rfl, b2⟩
  have B2 := chain B1 b2
  replace z0 := cell_keep b2 z0
  replace z1 := cell_keep b2 z1
  replace z2 := cell_keep b2 z2
  replace z3 := cell_keep b2 z3
  replace z4 := cell_keep b2 z4
  replace z5 := cell_keep b2 z5
  replace z6 := cell_keep b2 z6
  rw [q2]
  go_wp2_with fail
  refine (isParcelI a b t f wt xs vl _ _ ht hf (sl.keep B2 (Nat.le_refl _))).mono ?_
  rintro e w3 ⟨rfl, b3⟩
  have B3 := chain B2 b3
  replace z0 := cell_keep b3 z0
  replace z1 := cell_keep b3 z1
  replace z2 := cell_keep b3 z2
  replace z3 := cell_keep b3 z3
  replace z4 := cell_keep b3 z4
  replace z5 := cell_keep b3 z5
  replace z6 := cell_keep b3 z6
  rw [q3]
  go_wp2_with fail
  refine (zoneOfI zs t _ _ hokz ht (hz.keep B3 (Nat.le_refl _))).mono ?_
  rintro e w4 ⟨rfl, b4⟩
  have B4 := chain B3 b4
  replace z0 := cell_keep b4 z0
  replace z1 := cell_keep b4 z1
  replace z2 := cell_keep b4 z2
  replace z3 := cell_keep b4 z3
  replace z4 := cell_keep b4 z4
  replace z5 := cell_keep b4 z5
  replace z6 := cell_keep b4 z6
  have CW := fun (Q : World) (hQ : Below w.heap.size w Q) => chargeI a b t f wt xs vl _ Q ht hf (sl.keep hQ (Nat.le_refl _))
  rw [← hcw] at CW
  rw [← hzo]
  have HZ := Lib.hid hzo
  have HW := Lib.hid hcw
  clear hzo hcw q1 q2 q3 b1 b2 b3 b4 B0 B1 B2 B3
  go_wp2_with fail
  go_loopw [33] (fun i wr => ∃ k : Nat, k ≤ rs.length ∧ i = .int .i64 k ∧ Below w4.heap.size w4 wr ∧ Hid (∀ (j : Nat) (y : RateD), j < k → rs[j]? = some y → fitR zo a cw y = false)) (fun i _ => rs.length - (intOf i).toNat)
  case atStart => exact ⟨0, Nat.zero_le _, rfl, Below.refl _ _, fun j y hj => by omega⟩
  case round =>
    obtain ⟨k, hk, rfl, hB, H⟩ := hrel
    by_cases hlt : k < rs.length
    · obtain ⟨b_, off, r, rfl, hb_, hx, hc⟩ := hr.cells hlt
      obtain ⟨r0, r1, r2, r3⟩ := r
      have y0 := cell_keep (chain B4 hB) (hc 0 _ rfl)
      have y1 := cell_keep (chain B4 hB) (hc 1 _ rfl)
      have y2 := cell_keep (chain B4 hB) (hc 2 _ rfl)
      have y3 := cell_keep (chain B4 hB) (hc 3 _ rfl)
      simp only [Nat.add_zero] at y0
      have p0 := cell_keep hB z0
      have p1 := cell_keep hB z1
      have p2 := cell_keep hB z2
      have p3 := cell_keep hB z3
      have p4 := cell_keep hB z4
      have p5 := cell_keep hB z5
      have p6 := cell_keep hB z6
      have BB := chain B4 hB
      clear hc
      have e0 : ∀ (h : fitR zo a cw ⟨r0, r1, r2, r3⟩ = false), ∀ (j : Nat) (y : RateD), j < k + 1 → rs[j]? = some y → fitR zo a cw y = false := fun h => extend H.out hx.out h
      have E0 := Lib.hid e0
      clear e0
      cases h0 : (r0 == zo)
      · go_wp2_with fail
        obtain ⟨X, hX⟩ : ∃ X, X = wr.alloc (.cells #[.int .i64 r0, .int .i64 r1, .int .i64 r2, .int .i64 r3] 87) := ⟨_, rfl⟩
        rw [← hX]
        have x0 : X.cell? ⟨wr.heap.size, 0, none⟩ = some (.int .i64 r0) := by rw [hX]; simp [go_sem]
        have x1 : X.cell? ⟨wr.heap.size, 1, none⟩ = some (.int .i64 r1) := by rw [hX]; simp [go_sem]
        have x2 : X.cell? ⟨wr.heap.size, 2, none⟩ = some (.int .i64 r2) := by rw [hX]; simp [go_sem]
        have x3 : X.cell? ⟨wr.heap.size, 3, none⟩ = some (.int .i64 r3) := by rw [hX]; simp [go_sem]
        have bX : Below wr.heap.size wr X := by rw [hX]; go_grown
        clear hX
        replace p0 := cell_keep bX p0
        replace p1 := cell_keep bX p1
        replace p2 := cell_keep bX p2
        replace p3 := cell_keep bX p3
        replace p4 := cell_keep bX p4
        replace p5 := cell_keep bX p5
        replace p6 := cell_keep bX p6
        replace BB := chain BB bX
        replace hB := chain hB bX
        go_quiet (fail)
        go_wp2_with fail
        go_roundw
        case rel => exact ⟨k + 1, by omega, by go_num, below_drewN hB _, E0.out (by unfold fitR; have := beq_eq_false_iff_ne.1 h0; simp [this])⟩
        case measure => simp [intOf]; omega
      cases h1 : (r1 == a)
      · go_wp2_with fail
        obtain ⟨X, hX⟩ : ∃ X, X = wr.alloc (.cells #[.int .i64 r0, .int .i64 r1, .int .i64 r2, .int .i64 r3] 87) := ⟨_, rfl⟩
        rw [← hX]
        have x0 : X.cell? ⟨wr.heap.size, 0, none⟩ = some (.int .i64 r0) := by rw [hX]; simp [go_sem]
        have x1 : X.cell? ⟨wr.heap.size, 1, none⟩ = some (.int .i64 r1) := by rw [hX]; simp [go_sem]
        have x2 : X.cell? ⟨wr.heap.size, 2, none⟩ = some (.int .i64 r2) := by rw [hX]; simp [go_sem]
        have x3 : X.cell? ⟨wr.heap.size, 3, none⟩ = some (.int .i64 r3) := by rw [hX]; simp [go_sem]
        have bX : Below wr.heap.size wr X := by rw [hX]; go_grown
        clear hX
        replace p0 := cell_keep bX p0
        replace p1 := cell_keep bX p1
        replace p2 := cell_keep bX p2
        replace p3 := cell_keep bX p3
        replace p4 := cell_keep bX p4
        replace p5 := cell_keep bX p5
        replace p6 := cell_keep bX p6
        replace BB := chain BB bX
        replace hB := chain hB bX
        go_quiet (fail)
        go_wp2_with fail
        go_roundw
        case rel => exact ⟨k + 1, by omega, by go_num, below_drewN hB _, E0.out (by unfold fitR; have := beq_eq_false_iff_ne.1 h1; simp [this])⟩
        case measure => simp [intOf]; omega
      cases h2 : decide (cw ≤ r2)
      · go_wp2_with fail
        obtain ⟨X, hX⟩ : ∃ X, X = wr.alloc (.cells #[.int .i64 r0, .int .i64 r1, .int .i64 r2, .int .i64 r3] 87) := ⟨_, rfl⟩
        rw [← hX]
        have x0 : X.cell? ⟨wr.heap.size, 0, none⟩ = some (.int .i64 r0) := by rw [hX]; simp [go_sem]
        have x1 : X.cell? ⟨wr.heap.size, 1, none⟩ = some (.int .i64 r1) := by rw [hX]; simp [go_sem]
        have x2 : X.cell? ⟨wr.heap.size, 2, none⟩ = some (.int .i64 r2) := by rw [hX]; simp [go_sem]
        have x3 : X.cell? ⟨wr.heap.size, 3, none⟩ = some (.int .i64 r3) := by rw [hX]; simp [go_sem]
        have bX : Below wr.heap.size wr X := by rw [hX]; go_grown
        clear hX
        replace p0 := cell_keep bX p0
        replace p1 := cell_keep bX p1
        replace p2 := cell_keep bX p2
        replace p3 := cell_keep bX p3
        replace p4 := cell_keep bX p4
        replace p5 := cell_keep bX p5
        replace p6 := cell_keep bX p6
        replace BB := chain BB bX
        replace hB := chain hB bX
        go_region_held3 (fun Q => Q.cell? ⟨wr.heap.size, 0, none⟩ = some (.int .i64 r0) ∧ Q.cell? ⟨wr.heap.size, 1, none⟩ = some (.int .i64 r1) ∧ Q.cell? ⟨wr.heap.size, 2, none⟩ = some (.int .i64 r2) ∧ Q.cell? ⟨wr.heap.size, 3, none⟩ = some (.int .i64 r3) ∧ Q.cell? ⟨w.heap.size, 0, none⟩ = some (.int .i64 a) ∧ Q.cell? ⟨w.heap.size, 1, none⟩ = some (.int .i64 b) ∧ Q.cell? ⟨w.heap.size, 2, none⟩ = some (.string t) ∧ Q.cell? ⟨w.heap.size, 3, none⟩ = some (.string f) ∧ Q.cell? ⟨w.heap.size, 4, none⟩ = some (.int .i64 wt) ∧ Q.cell? ⟨w.heap.size, 5, none⟩ = some (.slice A xs.length c) ∧ Q.cell? ⟨w.heap.size, 6, none⟩ = some (.int .i64 vl) ∧ Below w4.heap.size w4 Q ∧ Below w.heap.size w Q) (((try go_split_ands); refine ⟨?_, ?_, ?_, ?_, ?_, ?_, ?_, ?_, ?_, ?_, ?_, ?_, ?_⟩ <;> first | assumption | (apply cell_keep <;> assumption) | (apply Below.drew; assumption) | (apply chain' <;> assumption))) ((first | (go_at_call 34; (try go_split_ands); refine (CW _ (by assumption)).mono ?_; rintro e w' ⟨rfl, hb'⟩)))
        (try go_split_ands)
        go_wp2_with fail
        go_roundw
        case rel => exact ⟨k + 1, by omega, by go_num, by assumption, E0.out (by unfold fitR; rw [h2]; simp)⟩
        case measure => simp [intOf]; omega
      · have hit : pfind zo a cw rs = some r3 := pfind_hit hx.out (by unfold fitR; rw [h2]; have := eq_of_beq h0; have := eq_of_beq h1; simp [*]) H.out
        have HIT := Lib.hid hit
        clear hit
        go_wp2_with fail
        obtain ⟨X, hX⟩ : ∃ X, X = wr.alloc (.cells #[.int .i64 r0, .int .i64 r1, .int .i64 r2, .int .i64 r3] 87) := ⟨_, rfl⟩
        rw [← hX]
        have x0 : X.cell? ⟨wr.heap.size, 0, none⟩ = some (.int .i64 r0) := by rw [hX]; simp [go_sem]
        have x1 : X.cell? ⟨wr.heap.size, 1, none⟩ = some (.int .i64 r1) := by rw [hX]; simp [go_sem]
        have x2 : X.cell? ⟨wr.heap.size, 2, none⟩ = some (.int .i64 r2) := by rw [hX]; simp [go_sem]
        have x3 : X.cell? ⟨wr.heap.size, 3, none⟩ = some (.int .i64 r3) := by rw [hX]; simp [go_sem]
        have bX : Below wr.heap.size wr X := by rw [hX]; go_grown
        clear hX
        replace p0 := cell_keep bX p0
        replace p1 := cell_keep bX p1
        replace p2 := cell_keep bX p2
        replace p3 := cell_keep bX p3
        replace p4 := cell_keep bX p4
        replace p5 := cell_keep bX p5
        replace p6 := cell_keep bX p6
        replace BB := chain BB bX
        replace hB := chain hB bX
        go_region_held3 (fun Q => Q.cell? ⟨wr.heap.size, 0, none⟩ = some (.int .i64 r0) ∧ Q.cell? ⟨wr.heap.size, 1, none⟩ = some (.int .i64 r1) ∧ Q.cell? ⟨wr.heap.size, 2, none⟩ = some (.int .i64 r2) ∧ Q.cell? ⟨wr.heap.size, 3, none⟩ = some (.int .i64 r3) ∧ Q.cell? ⟨w.heap.size, 0, none⟩ = some (.int .i64 a) ∧ Q.cell? ⟨w.heap.size, 1, none⟩ = some (.int .i64 b) ∧ Q.cell? ⟨w.heap.size, 2, none⟩ = some (.string t) ∧ Q.cell? ⟨w.heap.size, 3, none⟩ = some (.string f) ∧ Q.cell? ⟨w.heap.size, 4, none⟩ = some (.int .i64 wt) ∧ Q.cell? ⟨w.heap.size, 5, none⟩ = some (.slice A xs.length c) ∧ Q.cell? ⟨w.heap.size, 6, none⟩ = some (.int .i64 vl) ∧ Below w4.heap.size w4 Q ∧ Below w.heap.size w Q) (((try go_split_ands); refine ⟨?_, ?_, ?_, ?_, ?_, ?_, ?_, ?_, ?_, ?_, ?_, ?_, ?_⟩ <;> first | assumption | (apply cell_keep <;> assumption) | (apply Below.drew; assumption) | (apply chain' <;> assumption))) ((first | (go_at_call 34; (try go_split_ands); refine (CW _ (by assumption)).mono ?_; rintro e w' ⟨rfl, hb'⟩)))
        (try go_split_ands)
        go_wp2_with fail
        go_ret2
        exact ⟨ret_price (by rw [HV.out, HIT.out]; rfl) (by rw [HV.out, HIT.out]; rfl), by assumption⟩
    · obtain rfl : k = rs.length := by omega
      have hn : pfind zo a cw rs = none := pfind_none (fun j y hy => H.out j y (List.getElem?_eq_some_iff.1 hy).1 hy)
      have HN := Lib.hid hn
      clear hn
      go_wp2_with fail
      go_ret2
      exact ⟨ret_price (by rw [HV.out, HN.out]; rfl) (by rw [HV.out, HN.out]; rfl), chain B4 hB⟩
set_option maxHeartbeats 6400000 in
theorem priceS (zs : List ZoneD) (rs : List RateD) (a b : Int) (t f : ByteArray) (wt : Int) (xs : List Int) (vl : Int) (vz vr V : Value) (w : World) (hokz : ∀ x ∈ zs, x.ok) (hokr : ∀ x ∈ rs, x.ok) (ha : okI a) (ht : t.size ≤ maxLen) (hf : f.size ≤ maxLen)
    (hz : SliceOf w 2 ZoneD.vals vz zs) (hr : SliceOf w 4 RateD.vals vr rs) (sl : SliceOf w 1 vI V xs) : Calls Try.prog 38 #[vz, vr, .agg #[.int .i64 a, .int .i64 b, .string t, .string f, .int .i64 wt, V, .int .i64 vl]] w (PriceP (priceOpt zs rs a b t f wt xs vl) w) := by
  obtain ⟨Az, cz, rfl, hlz, hmz⟩ := hz.form
  obtain ⟨Ar, cr, rfl, hlr, hmr⟩ := hr.form
  obtain ⟨A, c, rfl, -, -⟩ := sl.form
  unfold maxLen at hmz hmr
  have hzn : okI (zs.length : Int) := by unfold okI; omega
  cases q1 : zonesB zs
  · have HV : Hid (priceOpt zs rs a b t f wt xs vl = none) := Lib.hid (by unfold priceOpt; rw [q1]; rfl)
    go_enter Try.func38, Try.ntmps38
    go_wp2_with fail
    obtain ⟨W, hW⟩ : ∃ W, W = w.alloc (.cells #[.int .i64 a, .int .i64 b, .string t, .string f, .int .i64 wt, .slice A xs.length c, .int .i64 vl] 41) := ⟨_, rfl⟩
    rw [← hW]
    have z0 : W.cell? ⟨w.heap.size, 0, none⟩ = some (.int .i64 a) := by rw [hW]; simp [go_sem]
    have z1 : W.cell? ⟨w.heap.size, 1, none⟩ = some (.int .i64 b) := by rw [hW]; simp [go_sem]
    have z2 : W.cell? ⟨w.heap.size, 2, none⟩ = some (.string t) := by rw [hW]; simp [go_sem]
    have z3 : W.cell? ⟨w.heap.size, 3, none⟩ = some (.string f) := by rw [hW]; simp [go_sem]
    have z4 : W.cell? ⟨w.heap.size, 4, none⟩ = some (.int .i64 wt) := by rw [hW]; simp [go_sem]
    have z5 : W.cell? ⟨w.heap.size, 5, none⟩ = some (.slice A xs.length c) := by rw [hW]; simp [go_sem]
    have z6 : W.cell? ⟨w.heap.size, 6, none⟩ = some (.int .i64 vl) := by rw [hW]; simp [go_sem]
    have B0 : Below w.heap.size w W := by rw [hW]; go_grown
    clear hW
    refine (areZonesS zs _ _ hokz (hz.keep B0 (Nat.le_refl _))).mono ?_
    rintro e w1 ⟨rfl, b1⟩
    have B1 := chain B0 b1
    replace z0 := cell_keep b1 z0
    replace z1 := cell_keep b1 z1
    replace z2 := cell_keep b1 z2
    replace z3 := cell_keep b1 z3
    replace z4 := cell_keep b1 z4
    replace z5 := cell_keep b1 z5
    replace z6 := cell_keep b1 z6
    rw [q1]
    go_wp2_with fail
    go_ret2
    exact ⟨ret_price (by rw [HV.out]; rfl) (by rw [HV.out]; rfl), B1⟩
  cases q2 : ratesB rs (zs.length : Int)
  · have HV : Hid (priceOpt zs rs a b t f wt xs vl = none) := Lib.hid (by unfold priceOpt; rw [q2]; simp)
    go_enter Try.func38, Try.ntmps38
    go_wp2_with fail
    obtain ⟨W, hW⟩ : ∃ W, W = w.alloc (.cells #[.int .i64 a, .int .i64 b, .string t, .string f, .int .i64 wt, .slice A xs.length c, .int .i64 vl] 41) := ⟨_, rfl⟩
    rw [← hW]
    have z0 : W.cell? ⟨w.heap.size, 0, none⟩ = some (.int .i64 a) := by rw [hW]; simp [go_sem]
    have z1 : W.cell? ⟨w.heap.size, 1, none⟩ = some (.int .i64 b) := by rw [hW]; simp [go_sem]
    have z2 : W.cell? ⟨w.heap.size, 2, none⟩ = some (.string t) := by rw [hW]; simp [go_sem]
    have z3 : W.cell? ⟨w.heap.size, 3, none⟩ = some (.string f) := by rw [hW]; simp [go_sem]
    have z4 : W.cell? ⟨w.heap.size, 4, none⟩ = some (.int .i64 wt) := by rw [hW]; simp [go_sem]
    have z5 : W.cell? ⟨w.heap.size, 5, none⟩ = some (.slice A xs.length c) := by rw [hW]; simp [go_sem]
    have z6 : W.cell? ⟨w.heap.size, 6, none⟩ = some (.int .i64 vl) := by rw [hW]; simp [go_sem]
    have B0 : Below w.heap.size w W := by rw [hW]; go_grown
    clear hW
    refine (areZonesS zs _ _ hokz (hz.keep B0 (Nat.le_refl _))).mono ?_
    rintro e w1 ⟨rfl, b1⟩
    have B1 := chain B0 b1
    replace z0 := cell_keep b1 z0
    replace z1 := cell_keep b1 z1
    replace z2 := cell_keep b1 z2
    replace z3 := cell_keep b1 z3
    replace z4 := cell_keep b1 z4
    replace z5 := cell_keep b1 z5
    replace z6 := cell_keep b1 z6
    rw [q1]
    go_wp2_with fail
    refine (areRatesS rs _ _ _ hokr hzn (hr.keep B1 (Nat.le_refl _))).mono ?_
    rintro e w2 ⟨rfl, b2⟩
    have B2 := chain B1 b2
    replace z0 := cell_keep b2 z0
    replace z1 := cell_keep b2 z1
    replace z2 := cell_keep b2 z2
    replace z3 := cell_keep b2 z3
    replace z4 := cell_keep b2 z4
    replace z5 := cell_keep b2 z5
    replace z6 := cell_keep b2 z6
    rw [q2]
    go_wp2_with fail
    go_ret2
    exact ⟨ret_price (by rw [HV.out]; rfl) (by rw [HV.out]; rfl), B2⟩
  cases q3 : parB a b t f wt xs vl
  · have HV : Hid (priceOpt zs rs a b t f wt xs vl = none) := Lib.hid (by unfold priceOpt; rw [q3]; simp)
    go_enter Try.func38, Try.ntmps38
    go_wp2_with fail
    obtain ⟨W, hW⟩ : ∃ W, W = w.alloc (.cells #[.int .i64 a, .int .i64 b, .string t, .string f, .int .i64 wt, .slice A xs.length c, .int .i64 vl] 41) := ⟨_, rfl⟩
    rw [← hW]
    have z0 : W.cell? ⟨w.heap.size, 0, none⟩ = some (.int .i64 a) := by rw [hW]; simp [go_sem]
    have z1 : W.cell? ⟨w.heap.size, 1, none⟩ = some (.int .i64 b) := by rw [hW]; simp [go_sem]
    have z2 : W.cell? ⟨w.heap.size, 2, none⟩ = some (.string t) := by rw [hW]; simp [go_sem]
    have z3 : W.cell? ⟨w.heap.size, 3, none⟩ = some (.string f) := by rw [hW]; simp [go_sem]
    have z4 : W.cell? ⟨w.heap.size, 4, none⟩ = some (.int .i64 wt) := by rw [hW]; simp [go_sem]
    have z5 : W.cell? ⟨w.heap.size, 5, none⟩ = some (.slice A xs.length c) := by rw [hW]; simp [go_sem]
    have z6 : W.cell? ⟨w.heap.size, 6, none⟩ = some (.int .i64 vl) := by rw [hW]; simp [go_sem]
    have B0 : Below w.heap.size w W := by rw [hW]; go_grown
    clear hW
    refine (areZonesS zs _ _ hokz (hz.keep B0 (Nat.le_refl _))).mono ?_
    rintro e w1 ⟨rfl, b1⟩
    have B1 := chain B0 b1
    replace z0 := cell_keep b1 z0
    replace z1 := cell_keep b1 z1
    replace z2 := cell_keep b1 z2
    replace z3 := cell_keep b1 z3
    replace z4 := cell_keep b1 z4
    replace z5 := cell_keep b1 z5
    replace z6 := cell_keep b1 z6
    rw [q1]
    go_wp2_with fail
    refine (areRatesS rs _ _ _ hokr hzn (hr.keep B1 (Nat.le_refl _))).mono ?_
    rintro e w2 ⟨rfl, b2⟩
    have B2 := chain B1 b2
    replace z0 := cell_keep b2 z0
    replace z1 := cell_keep b2 z1
    replace z2 := cell_keep b2 z2
    replace z3 := cell_keep b2 z3
    replace z4 := cell_keep b2 z4
    replace z5 := cell_keep b2 z5
    replace z6 := cell_keep b2 z6
    rw [q2]
    go_wp2_with fail
    refine (isParcelS a b t f wt xs vl _ _ ht hf (sl.keep B2 (Nat.le_refl _))).mono ?_
    rintro e w3 ⟨rfl, b3⟩
    have B3 := chain B2 b3
    replace z0 := cell_keep b3 z0
    replace z1 := cell_keep b3 z1
    replace z2 := cell_keep b3 z2
    replace z3 := cell_keep b3 z3
    replace z4 := cell_keep b3 z4
    replace z5 := cell_keep b3 z5
    replace z6 := cell_keep b3 z6
    rw [q3]
    go_wp2_with fail
    go_ret2
    exact ⟨ret_price (by rw [HV.out]; rfl) (by rw [HV.out]; rfl), B3⟩
  obtain ⟨zo, hzo⟩ : ∃ zo, zo = zoneOf zs t := ⟨_, rfl⟩
  obtain ⟨cw, hcw⟩ : ∃ cw, cw = chargeW a b t f wt xs vl := ⟨_, rfl⟩
  have HV : Hid (priceOpt zs rs a b t f wt xs vl = pfind zo a cw rs) := Lib.hid (by unfold priceOpt; rw [q1, q2, q3, hzo, hcw]; rfl)
  go_enter Try.func38, Try.ntmps38
  go_wp2_with fail
  obtain ⟨W, hW⟩ : ∃ W, W = w.alloc (.cells #[.int .i64 a, .int .i64 b, .string t, .string f, .int .i64 wt, .slice A xs.length c, .int .i64 vl] 41) := ⟨_, rfl⟩
  rw [← hW]
  have z0 : W.cell? ⟨w.heap.size, 0, none⟩ = some (.int .i64 a) := by rw [hW]; simp [go_sem]
  have z1 : W.cell? ⟨w.heap.size, 1, none⟩ = some (.int .i64 b) := by rw [hW]; simp [go_sem]
  have z2 : W.cell? ⟨w.heap.size, 2, none⟩ = some (.string t) := by rw [hW]; simp [go_sem]
  have z3 : W.cell? ⟨w.heap.size, 3, none⟩ = some (.string f) := by rw [hW]; simp [go_sem]
  have z4 : W.cell? ⟨w.heap.size, 4, none⟩ = some (.int .i64 wt) := by rw [hW]; simp [go_sem]
  have z5 : W.cell? ⟨w.heap.size, 5, none⟩ = some (.slice A xs.length c) := by rw [hW]; simp [go_sem]
  have z6 : W.cell? ⟨w.heap.size, 6, none⟩ = some (.int .i64 vl) := by rw [hW]; simp [go_sem]
  have B0 : Below w.heap.size w W := by rw [hW]; go_grown
  clear hW
  refine (areZonesS zs _ _ hokz (hz.keep B0 (Nat.le_refl _))).mono ?_
  rintro e w1 ⟨rfl, b1⟩
  have B1 := chain B0 b1
  replace z0 := cell_keep b1 z0
  replace z1 := cell_keep b1 z1
  replace z2 := cell_keep b1 z2
  replace z3 := cell_keep b1 z3
  replace z4 := cell_keep b1 z4
  replace z5 := cell_keep b1 z5
  replace z6 := cell_keep b1 z6
  rw [q1]
  go_wp2_with fail
  refine (areRatesS rs _ _ _ hokr hzn (hr.keep B1 (Nat.le_refl _))).mono ?_
  rintro e w2 ⟨rfl, b2⟩
  have B2 := chain B1 b2
  replace z0 := cell_keep b2 z0
  replace z1 := cell_keep b2 z1
  replace z2 := cell_keep b2 z2
  replace z3 := cell_keep b2 z3
  replace z4 := cell_keep b2 z4
  replace z5 := cell_keep b2 z5
  replace z6 := cell_keep b2 z6
  rw [q2]
  go_wp2_with fail
  refine (isParcelS a b t f wt xs vl _ _ ht hf (sl.keep B2 (Nat.le_refl _))).mono ?_
  rintro e w3 ⟨rfl, b3⟩
  have B3 := chain B2 b3
  replace z0 := cell_keep b3 z0
  replace z1 := cell_keep b3 z1
  replace z2 := cell_keep b3 z2
  replace z3 := cell_keep b3 z3
  replace z4 := cell_keep b3 z4
  replace z5 := cell_keep b3 z5
  replace z6 := cell_keep b3 z6
  rw [q3]
  go_wp2_with fail
  refine (zoneOfS zs t _ _ hokz ht (hz.keep B3 (Nat.le_refl _))).mono ?_
  rintro e w4 ⟨rfl, b4⟩
  have B4 := chain B3 b4
  replace z0 := cell_keep b4 z0
  replace z1 := cell_keep b4 z1
  replace z2 := cell_keep b4 z2
  replace z3 := cell_keep b4 z3
  replace z4 := cell_keep b4 z4
  replace z5 := cell_keep b4 z5
  replace z6 := cell_keep b4 z6
  have CW := fun (Q : World) (hQ : Below w.heap.size w Q) => chargeS a b t f wt xs vl _ Q ht hf (sl.keep hQ (Nat.le_refl _))
  rw [← hcw] at CW
  rw [← hzo]
  have HZ := Lib.hid hzo
  have HW := Lib.hid hcw
  clear hzo hcw q1 q2 q3 b1 b2 b3 b4 B0 B1 B2 B3
  go_wp2_with fail
  go_loopw [9] (fun i wr => ∃ k : Nat, k ≤ rs.length ∧ i = .int .i64 k ∧ Below w4.heap.size w4 wr ∧ Hid (∀ (j : Nat) (y : RateD), j < k → rs[j]? = some y → fitR zo a cw y = false)) (fun i _ => rs.length - (intOf i).toNat)
  case atStart => exact ⟨0, Nat.zero_le _, rfl, Below.refl _ _, fun j y hj => by omega⟩
  case round =>
    obtain ⟨k, hk, rfl, hB, H⟩ := hrel
    by_cases hlt : k < rs.length
    · obtain ⟨b_, off, r, rfl, hb_, hx, hc⟩ := hr.cells hlt
      obtain ⟨r0, r1, r2, r3⟩ := r
      have y0 := cell_keep (chain B4 hB) (hc 0 _ rfl)
      have y1 := cell_keep (chain B4 hB) (hc 1 _ rfl)
      have y2 := cell_keep (chain B4 hB) (hc 2 _ rfl)
      have y3 := cell_keep (chain B4 hB) (hc 3 _ rfl)
      simp only [Nat.add_zero] at y0
      have p0 := cell_keep hB z0
      have p1 := cell_keep hB z1
      have p2 := cell_keep hB z2
      have p3 := cell_keep hB z3
      have p4 := cell_keep hB z4
      have p5 := cell_keep hB z5
      have p6 := cell_keep hB z6
      have BB := chain B4 hB
      clear hc
      have e0 : ∀ (h : fitR zo a cw ⟨r0, r1, r2, r3⟩ = false), ∀ (j : Nat) (y : RateD), j < k + 1 → rs[j]? = some y → fitR zo a cw y = false := fun h => extend H.out hx.out h
      have E0 := Lib.hid e0
      clear e0
      cases h0 : (r0 == zo)
      · go_wp2_with fail
        go_quiet (fail)
        go_wp2_with fail
        go_roundw
        case rel => exact ⟨k + 1, by omega, by go_num, below_drewN hB _, E0.out (by unfold fitR; have := beq_eq_false_iff_ne.1 h0; simp [this])⟩
        case measure => simp [intOf]; omega
      cases h1 : (r1 == a)
      · go_wp2_with fail
        go_quiet (fail)
        go_wp2_with fail
        go_roundw
        case rel => exact ⟨k + 1, by omega, by go_num, below_drewN hB _, E0.out (by unfold fitR; have := beq_eq_false_iff_ne.1 h1; simp [this])⟩
        case measure => simp [intOf]; omega
      cases h2 : decide (cw ≤ r2)
      · go_wp2_with fail
        go_region_held3 (fun Q => Q.cell? ⟨b_, off + k * 4, none⟩ = some (.int .i64 r0) ∧ Q.cell? ⟨b_, off + k * 4 + 1, none⟩ = some (.int .i64 r1) ∧ Q.cell? ⟨b_, off + k * 4 + 2, none⟩ = some (.int .i64 r2) ∧ Q.cell? ⟨b_, off + k * 4 + 3, none⟩ = some (.int .i64 r3) ∧ Q.cell? ⟨w.heap.size, 0, none⟩ = some (.int .i64 a) ∧ Q.cell? ⟨w.heap.size, 1, none⟩ = some (.int .i64 b) ∧ Q.cell? ⟨w.heap.size, 2, none⟩ = some (.string t) ∧ Q.cell? ⟨w.heap.size, 3, none⟩ = some (.string f) ∧ Q.cell? ⟨w.heap.size, 4, none⟩ = some (.int .i64 wt) ∧ Q.cell? ⟨w.heap.size, 5, none⟩ = some (.slice A xs.length c) ∧ Q.cell? ⟨w.heap.size, 6, none⟩ = some (.int .i64 vl) ∧ Below w4.heap.size w4 Q ∧ Below w.heap.size w Q) (((try go_split_ands); refine ⟨?_, ?_, ?_, ?_, ?_, ?_, ?_, ?_, ?_, ?_, ?_, ?_, ?_⟩ <;> first | assumption | (apply cell_keep <;> assumption) | (apply Below.drew; assumption) | (apply chain' <;> assumption))) ((first | (go_at_call 35; (try go_split_ands); refine (CW _ (by assumption)).mono ?_; rintro e w' ⟨rfl, hb'⟩)))
        (try go_split_ands)
        go_wp2_with fail
        go_roundw
        case rel => exact ⟨k + 1, by omega, by go_num, by assumption, E0.out (by unfold fitR; rw [h2]; simp)⟩
        case measure => simp [intOf]; omega
      · have hit : pfind zo a cw rs = some r3 := pfind_hit hx.out (by unfold fitR; rw [h2]; have := eq_of_beq h0; have := eq_of_beq h1; simp [*]) H.out
        have HIT := Lib.hid hit
        clear hit
        go_wp2_with fail
        go_region_held3 (fun Q => Q.cell? ⟨b_, off + k * 4, none⟩ = some (.int .i64 r0) ∧ Q.cell? ⟨b_, off + k * 4 + 1, none⟩ = some (.int .i64 r1) ∧ Q.cell? ⟨b_, off + k * 4 + 2, none⟩ = some (.int .i64 r2) ∧ Q.cell? ⟨b_, off + k * 4 + 3, none⟩ = some (.int .i64 r3) ∧ Q.cell? ⟨w.heap.size, 0, none⟩ = some (.int .i64 a) ∧ Q.cell? ⟨w.heap.size, 1, none⟩ = some (.int .i64 b) ∧ Q.cell? ⟨w.heap.size, 2, none⟩ = some (.string t) ∧ Q.cell? ⟨w.heap.size, 3, none⟩ = some (.string f) ∧ Q.cell? ⟨w.heap.size, 4, none⟩ = some (.int .i64 wt) ∧ Q.cell? ⟨w.heap.size, 5, none⟩ = some (.slice A xs.length c) ∧ Q.cell? ⟨w.heap.size, 6, none⟩ = some (.int .i64 vl) ∧ Below w4.heap.size w4 Q ∧ Below w.heap.size w Q) (((try go_split_ands); refine ⟨?_, ?_, ?_, ?_, ?_, ?_, ?_, ?_, ?_, ?_, ?_, ?_, ?_⟩ <;> first | assumption | (apply cell_keep <;> assumption) | (apply Below.drew; assumption) | (apply chain' <;> assumption))) ((first | (go_at_call 35; (try go_split_ands); refine (CW _ (by assumption)).mono ?_; rintro e w' ⟨rfl, hb'⟩)))
        (try go_split_ands)
        go_wp2_with fail
        go_ret2
        exact ⟨ret_price (by rw [HV.out, HIT.out]; rfl) (by rw [HV.out, HIT.out]; rfl), by assumption⟩
    · obtain rfl : k = rs.length := by omega
      have hn : pfind zo a cw rs = none := pfind_none (fun j y hy => H.out j y (List.getElem?_eq_some_iff.1 hy).1 hy)
      have HN := Lib.hid hn
      clear hn
      go_wp2_with fail
      go_ret2
      exact ⟨ret_price (by rw [HV.out, HN.out]; rfl) (by rw [HV.out, HN.out]; rfl), chain B4 hB⟩
end Go.Proofs.Yteolobffmldfhaa
