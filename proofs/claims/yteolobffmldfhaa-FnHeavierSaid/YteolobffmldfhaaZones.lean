/- What AreZones and ZoneOf answer: the program's and the reference's alike. No condition. -/
import Derived.Test.YteolobffmldfhaaRecZone
import Derived.Test.YteolobffmldfhaaPlace
namespace Go.Proofs.Yteolobffmldfhaa
open Go.RowKit Go.PlainAid
set_option maxRecDepth 100000
set_option linter.unusedVariables false

/-- The order of texts as the walk spells it. -/
def lss (a b : ByteArray) : Bool := Op.bytesLess a.toList b.toList
def same (a b : ByteArray) : Bool := a.toList == b.toList
/-- A zone behind zones that end at p. -/
def zoneOk (p : Option ByteArray) (z : ZoneD) : Bool := plc z.first && plc z.last && (lss z.first z.last || same z.first z.last) && (match p with | none => true | some l => !(lss z.first l || same z.first l))
def zonesFrom : Option ByteArray → List ZoneD → Bool
  | _, [] => true
  | p, z :: r => zoneOk p z && zonesFrom (some z.last) r
def zonesB (xs : List ZoneD) : Bool := zonesFrom none xs && decide (xs.length ≤ 8)
/-- What the zone ahead of place k ends at. -/
def lastAt (xs : List ZoneD) : Nat → Option ByteArray
  | 0 => none
  | k + 1 => (xs[k]?).map (·.last)
theorem zonesFrom_at : ∀ (xs : List ZoneD) (p : Option ByteArray) (k : Nat) (z : ZoneD), xs[k]? = some z → zoneOk (match k with | 0 => p | j + 1 => (xs[j]?).map (·.last)) z = false → zonesFrom p xs = false
  | [], p, k, z, h, _ => by simp at h
  | y :: r, p, 0, z, h, hz => by simp at h; subst h; simp only [zonesFrom]; simp only at hz; rw [hz]; rfl
  | y :: r, p, k + 1, z, h, hz => by
    have ih := zonesFrom_at r (some y.last) k z (by simpa using h) (by
      cases k with
      | zero => simpa using hz
      | succ j => simpa using hz)
    simp only [zonesFrom]; rw [ih]; simp
theorem zonesB_bad {xs : List ZoneD} {k : Nat} {z : ZoneD} (h : xs[k]? = some z) (hz : zoneOk (lastAt xs k) z = false) : zonesB xs = false := by
  unfold zonesB
  rw [zonesFrom_at xs none k z h (by cases k with | zero => exact hz | succ j => exact hz)]
  rfl
theorem zonesFrom_ok : ∀ (xs : List ZoneD) (p : Option ByteArray), (∀ (k : Nat) (z : ZoneD), xs[k]? = some z → zoneOk (match k with | 0 => p | j + 1 => (xs[j]?).map (·.last)) z = true) → zonesFrom p xs = true
  | [], p, _ => rfl
  | y :: r, p, h => by
    have h0 := h 0 y (by simp)
    have ih := zonesFrom_ok r (some y.last) (fun k z hk => by
      have := h (k + 1) z (by simpa using hk)
      cases k with
      | zero => simpa using this
      | succ j => simpa using this)
    simp only [zonesFrom]; simp only at h0; rw [h0, ih]; rfl
theorem zonesB_good {xs : List ZoneD} (h : ∀ (k : Nat) (z : ZoneD), xs[k]? = some z → zoneOk (lastAt xs k) z = true) : zonesB xs = decide (xs.length ≤ 8) := by
  unfold zonesB
  rw [zonesFrom_ok xs none (fun k z hk => by have := h k z hk; cases k with | zero => exact this | succ j => exact this)]
  rfl
theorem bl_flip : ∀ (x y : List UInt8), Op.bytesLess y x = !(Op.bytesLess x y || x == y)
  | [], [] => rfl
  | [], _ :: _ => rfl
  | _ :: _, [] => rfl
  | a :: x, b :: y => by
    have ih := bl_flip x y
    simp only [Op.bytesLess, List.cons_beq_cons]
    rcases Nat.lt_trichotomy a.toNat b.toNat with h | h | h
    · have h1 : a < b := h
      have h2 : ¬ b < a := fun h2 => absurd (show b.toNat < a.toNat from h2) (by omega)
      have h3 : (b == a) = false := by rw [beq_eq_false_iff_ne]; intro e; subst e; omega
      simp [h1, h2, h3]
    · have e : a = b := UInt8.toNat_inj.1 h
      subst e
      have h2 : ¬ a < a := fun h2 => absurd (show a.toNat < a.toNat from h2) (by omega)
      simp [h2, ih]
    · have h1 : b < a := h
      have h2 : ¬ a < b := fun h2 => absurd (show a.toNat < b.toNat from h2) (by omega)
      have h3 : (a == b) = false := by rw [beq_eq_false_iff_ne]; intro e; subst e; omega
      simp [h1, h2, h3]
theorem lss_flip (a b : ByteArray) : lss b a = !(lss a b || same a b) := bl_flip _ _
theorem zoneOk_iff {p : Option ByteArray} {z : ZoneD} : zoneOk p z = true ↔ plc z.first = true ∧ plc z.last = true ∧ (lss z.first z.last || same z.first z.last) = true ∧ (match p with | none => true | some l => !(lss z.first l || same z.first l)) = true := by
  unfold zoneOk; simp only [Bool.and_eq_true, and_assoc]
set_option maxHeartbeats 3200000 in
theorem areZonesI (xs : List ZoneD) (v : Value) (w : World) (hok : ∀ x ∈ xs, x.ok) (h : SliceOf w 2 ZoneD.vals v xs) : Calls Try.prog 73 #[v] w fun e w' => e = .returned (.bool (zonesB xs)) ∧ Below w.heap.size w w' := by
  obtain ⟨A, c, rfl, hl, hm⟩ := h.form
  unfold maxLen at hm
  go_enter Try.func73, Try.ntmps73
  go_wp2
  go_loopw [7] (fun i wr => ∃ k : Nat, k ≤ xs.length ∧ i = .int .i64 k ∧ Below w.heap.size w wr ∧ Hid (∀ (j : Nat) (z : ZoneD), j < k → xs[j]? = some z → zoneOk (lastAt xs j) z = true)) (fun i _ => xs.length - (intOf i).toNat)
  case atStart => exact ⟨0, Nat.zero_le _, rfl, Below.refl _ _, fun j z hj => by omega⟩
  case round =>
    obtain ⟨k, hk, rfl, hB, H⟩ := hrel
    by_cases hlt : k < xs.length
    · obtain ⟨b_, off, x, rfl, hb_, hx, hc⟩ := h.cells hlt
      have hxo := hok x (mem_of hx.out)
      obtain ⟨f, l⟩ := x
      have s1 := hxo.1
      have s2 := hxo.2
      simp only at s1 s2
      have c0 : wr.cell? ⟨b_, off + k * 2, none⟩ = some (.string f) := (hB.cell (p := ⟨b_, _, none⟩) hb_).trans (hc 0 _ rfl)
      have c1 : wr.cell? ⟨b_, off + k * 2 + 1, none⟩ = some (.string l) := (hB.cell (p := ⟨b_, _, none⟩) hb_).trans (hc 1 _ rfl)
      clear hc hxo
      cases p1 : plc f
      · go_wp2
        go_quiet ((go_at_call 65; exact quiet_left (isPlaceI _ _ (by assumption))))
        go_wp2
        go_ret
        exact ⟨ret_bool (zonesB_bad hx.out (by unfold zoneOk; rw [p1]; simp)).symm, below_drewN (hB.alloc hB.size _) _⟩
      cases p2 : plc l
      · go_wp2
        go_quiet ((go_at_call 65; exact quiet_left (isPlaceI _ _ (by assumption))))
        go_wp2
        go_ret
        exact ⟨ret_bool (zonesB_bad hx.out (by unfold zoneOk; rw [p2]; simp)).symm, below_drewN (hB.alloc hB.size _) _⟩
      cases hA : (Op.bytesLess f.toList l.toList || f.toList == l.toList)
      · go_wp2
        go_quiet ((go_at_call 65; exact quiet_left (isPlaceI _ _ (by assumption))))
        go_wp2
        go_ret
        exact ⟨ret_bool (zonesB_bad hx.out (by unfold zoneOk lss same; rw [hA]; simp)).symm, below_drewN (hB.alloc hB.size _) _⟩
      rcases k with _ | m
      · simp only [Nat.zero_mul, Nat.add_zero] at c0 c1
        go_wp2
        go_quiet ((go_at_call 65; exact quiet_left (isPlaceI _ _ (by assumption))))
        go_wp2
        go_roundw
        case rel => exact ⟨0 + 1, by omega, by go_num, below_drewN (hB.alloc hB.size _) _, fun j z hj hz => by
          by_cases e : j = 0
          · subst e
            obtain rfl : _ = z := by have := hx.out.symm.trans hz; injection this
            exact zoneOk_iff.2 ⟨p1, p2, hA, rfl⟩
          · exact H.out j z (by omega) hz⟩
        case measure => simp [intOf]; omega
      · obtain ⟨b2, off2, y, e2, hb2, hy, hd⟩ := h.cells (k := m) (by omega)
        injection e2 with e2
        injection e2 with e3 e4
        subst e3 e4
        have d1 : wr.cell? ⟨b_, off + m * 2 + 1, none⟩ = some (.string y.last) := (hB.cell (p := ⟨b_, _, none⟩) hb_).trans (hd 1 _ rfl)
        obtain ⟨yl, hyl⟩ : ∃ yl, yl = y.last := ⟨_, rfl⟩
        rw [← hyl] at d1
        have HYL := Lib.hid hyl; clear hyl hd
        have hla : lastAt xs (m + 1) = some yl := by show (xs[m]?).map _ = _; rw [hy.out, HYL.out]; rfl
        have HLA := Lib.hid hla; clear hla
        have wm : IntKind.i64.wrap (m : Int) = (m : Int) := IntWalk.i64_in _ (by omega)
        have hm0 : (m : Int) < (xs.length : Int) := by omega
        have hbw : b_ < wr.heap.size := Nat.lt_of_lt_of_le hb_ hB.size
        cases hq : (Op.bytesLess f.toList yl.toList || f.toList == yl.toList)
        · go_wp2
          go_quiet ((go_at_call 65; exact quiet_left (isPlaceI _ _ (by assumption))))
          go_wp2
          go_roundw
          case rel => exact ⟨(m + 1) + 1, by omega, by go_num, below_drewN (hB.alloc hB.size _) _, fun j z hj hz => by
            by_cases e : j = (m + 1)
            · subst e
              obtain rfl : _ = z := by have := hx.out.symm.trans hz; injection this
              exact by rw [HLA.out]; exact zoneOk_iff.2 ⟨p1, p2, hA, by show (!(lss f yl || same f yl)) = true; unfold lss same; rw [hq]; rfl⟩
            · exact H.out j z (by omega) hz⟩
          case measure => simp [intOf]; omega
        · go_wp2
          go_quiet ((go_at_call 65; exact quiet_left (isPlaceI _ _ (by assumption))))
          go_wp2
          go_ret
          exact ⟨ret_bool (zonesB_bad hx.out (by rw [HLA.out]; unfold zoneOk lss same; simp only; rw [hq]; simp)).symm, below_drewN (hB.alloc hB.size _) _⟩
    · obtain rfl : k = xs.length := by omega
      have hg := zonesB_good (fun j z hj => H.out j z (List.getElem?_eq_some_iff.1 hj).1 hj)
      have HG := Lib.hid hg; clear hg
      go_wp2
      go_ret
      exact ⟨ret_bool (by rw [HG.out, decide_eq_decide]; omega), hB⟩
set_option maxHeartbeats 3200000 in
theorem areZonesS (xs : List ZoneD) (v : Value) (w : World) (hok : ∀ x ∈ xs, x.ok) (h : SliceOf w 2 ZoneD.vals v xs) : Calls Try.prog 76 #[v] w fun e w' => e = .returned (.bool (zonesB xs)) ∧ Below w.heap.size w w' := by
  obtain ⟨A, c, rfl, hl, hm⟩ := h.form
  unfold maxLen at hm
  go_enter Try.func76, Try.ntmps76
  go_wp2
  go_loopw [3] (fun i wr => ∃ k : Nat, k ≤ xs.length ∧ i = .int .i64 k ∧ Below w.heap.size w wr ∧ Hid (∀ (j : Nat) (z : ZoneD), j < k → xs[j]? = some z → zoneOk (lastAt xs j) z = true)) (fun i _ => xs.length - (intOf i).toNat)
  case atStart => exact ⟨0, Nat.zero_le _, rfl, Below.refl _ _, fun j z hj => by omega⟩
  case round =>
    obtain ⟨k, hk, rfl, hB, H⟩ := hrel
    by_cases hlt : k < xs.length
    · obtain ⟨b_, off, x, rfl, hb_, hx, hc⟩ := h.cells hlt
      have hxo := hok x (mem_of hx.out)
      obtain ⟨f, l⟩ := x
      have s1 := hxo.1
      have s2 := hxo.2
      simp only at s1 s2
      have c0 : wr.cell? ⟨b_, off + k * 2, none⟩ = some (.string f) := (hB.cell (p := ⟨b_, _, none⟩) hb_).trans (hc 0 _ rfl)
      have c1 : wr.cell? ⟨b_, off + k * 2 + 1, none⟩ = some (.string l) := (hB.cell (p := ⟨b_, _, none⟩) hb_).trans (hc 1 _ rfl)
      clear hc hxo
      cases p1 : plc f
      · go_wp2
        go_quiet ((go_at_call 61; exact quiet_left (isPlaceS _ _ (by assumption))))
        go_wp2
        go_ret
        exact ⟨ret_bool (zonesB_bad hx.out (by unfold zoneOk; rw [p1]; simp)).symm, below_drewN hB _⟩
      cases p2 : plc l
      · go_wp2
        go_quiet ((go_at_call 61; exact quiet_left (isPlaceS _ _ (by assumption))))
        go_wp2
        go_ret
        exact ⟨ret_bool (zonesB_bad hx.out (by unfold zoneOk; rw [p2]; simp)).symm, below_drewN hB _⟩
      cases hA : (Op.bytesLess f.toList l.toList || f.toList == l.toList)
      · go_wp2
        go_quiet ((go_at_call 61; exact quiet_left (isPlaceS _ _ (by assumption))))
        go_wp2
        go_ret
        exact ⟨ret_bool (zonesB_bad hx.out (by unfold zoneOk lss same; rw [hA]; simp)).symm, below_drewN hB _⟩
      rcases k with _ | m
      · simp only [Nat.zero_mul, Nat.add_zero] at c0 c1
        go_wp2
        go_quiet ((go_at_call 61; exact quiet_left (isPlaceS _ _ (by assumption))))
        go_wp2
        go_roundw
        case rel => exact ⟨0 + 1, by omega, by go_num, below_drewN hB _, fun j z hj hz => by
          by_cases e : j = 0
          · subst e
            obtain rfl : _ = z := by have := hx.out.symm.trans hz; injection this
            exact zoneOk_iff.2 ⟨p1, p2, hA, rfl⟩
          · exact H.out j z (by omega) hz⟩
        case measure => simp [intOf]; omega
      · obtain ⟨b2, off2, y, e2, hb2, hy, hd⟩ := h.cells (k := m) (by omega)
        injection e2 with e2
        injection e2 with e3 e4
        subst e3 e4
        have d1 : wr.cell? ⟨b_, off + m * 2 + 1, none⟩ = some (.string y.last) := (hB.cell (p := ⟨b_, _, none⟩) hb_).trans (hd 1 _ rfl)
        obtain ⟨yl, hyl⟩ : ∃ yl, yl = y.last := ⟨_, rfl⟩
        rw [← hyl] at d1
        have HYL := Lib.hid hyl; clear hyl hd
        have hla : lastAt xs (m + 1) = some yl := by show (xs[m]?).map _ = _; rw [hy.out, HYL.out]; rfl
        have HLA := Lib.hid hla; clear hla
        have wm : IntKind.i64.wrap (m : Int) = (m : Int) := IntWalk.i64_in _ (by omega)
        have hm0 : (m : Int) < (xs.length : Int) := by omega
        cases hq : (Op.bytesLess f.toList yl.toList || f.toList == yl.toList)
        · have hq' : Op.bytesLess yl.toList f.toList = true := by have := lss_flip f yl; unfold lss same at this; rw [this, hq]; rfl
          go_wp2
          go_quiet ((go_at_call 61; exact quiet_left (isPlaceS _ _ (by assumption))))
          go_wp2
          go_roundw
          case rel => exact ⟨(m + 1) + 1, by omega, by go_num, below_drewN hB _, fun j z hj hz => by
            by_cases e : j = (m + 1)
            · subst e
              obtain rfl : _ = z := by have := hx.out.symm.trans hz; injection this
              exact by rw [HLA.out]; exact zoneOk_iff.2 ⟨p1, p2, hA, by show (!(lss f yl || same f yl)) = true; unfold lss same; rw [hq]; rfl⟩
            · exact H.out j z (by omega) hz⟩
          case measure => simp [intOf]; omega
        · have hq' : Op.bytesLess yl.toList f.toList = false := by have := lss_flip f yl; unfold lss same at this; rw [this, hq]; rfl
          go_wp2
          go_quiet ((go_at_call 61; exact quiet_left (isPlaceS _ _ (by assumption))))
          go_wp2
          go_ret
          exact ⟨ret_bool (zonesB_bad hx.out (by rw [HLA.out]; unfold zoneOk lss same; simp only; rw [hq]; simp)).symm, below_drewN hB _⟩
    · obtain rfl : k = xs.length := by omega
      have hg := zonesB_good (fun j z hj => H.out j z (List.getElem?_eq_some_iff.1 hj).1 hj)
      have HG := Lib.hid hg; clear hg
      go_wp2
      go_ret
      exact ⟨ret_bool (by rw [HG.out, decide_eq_decide]; omega), hB⟩
end Go.Proofs.Yteolobffmldfhaa
