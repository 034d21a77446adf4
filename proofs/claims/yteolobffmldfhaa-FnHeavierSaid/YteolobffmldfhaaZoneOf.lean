/- What ZoneOf answers: the program's and the reference's alike. No condition. -/
import Derived.Test.YteolobffmldfhaaZones
namespace Go.Proofs.Yteolobffmldfhaa
open Go.RowKit Go.PlainAid
set_option maxRecDepth 100000
set_option linter.unusedVariables false
def inZone (p : ByteArray) (z : ZoneD) : Bool := (lss z.first p || same z.first p) && (lss p z.last || same p z.last)
def zfind (p : ByteArray) : List ZoneD → Nat → Int
  | [], _ => -1
  | z :: r, i => if inZone p z then (i : Int) else zfind p r (i + 1)
def zoneOf (xs : List ZoneD) (p : ByteArray) : Int := if zonesB xs && plc p then zfind p xs 0 else -1
theorem zfind_hit' {p : ByteArray} : ∀ {xs : List ZoneD} {k i : Nat} {z : ZoneD}, xs[k]? = some z → inZone p z = true → (∀ (j : Nat) (y : ZoneD), j < k → xs[j]? = some y → inZone p y = false) → zfind p xs i = ((i + k : Nat) : Int)
  | [], k, i, z, h, _, _ => by simp at h
  | y :: r, 0, i, z, h, hz, _ => by simp at h; subst h; simp [zfind, hz]
  | y :: r, k + 1, i, z, h, hz, hn => by
    have h0 := hn 0 y (by omega) rfl
    simp only [zfind, h0]
    rw [if_neg (by simp), zfind_hit' (xs := r) (k := k) (by simpa using h) hz (fun j y' hj hy => hn (j + 1) y' (by omega) (by simpa using hy))]
    congr 1; omega
theorem zfind_hit {p : ByteArray} {xs : List ZoneD} {k : Nat} {z : ZoneD} (h : xs[k]? = some z) (hz : inZone p z = true) (hn : ∀ (j : Nat) (y : ZoneD), j < k → xs[j]? = some y → inZone p y = false) : zfind p xs 0 = (k : Int) := by
  rw [zfind_hit' h hz hn, Nat.zero_add]
theorem zfind_none' {p : ByteArray} : ∀ {xs : List ZoneD} {i : Nat}, (∀ (j : Nat) (y : ZoneD), xs[j]? = some y → inZone p y = false) → zfind p xs i = -1
  | [], i, _ => rfl
  | y :: r, i, hn => by
    have h0 := hn 0 y rfl
    simp only [zfind, h0]
    rw [if_neg (by simp)]
    exact zfind_none' (fun j y' hy => hn (j + 1) y' (by simpa using hy))
theorem zfind_none {p : ByteArray} {xs : List ZoneD} (hn : ∀ (j : Nat) (y : ZoneD), xs[j]? = some y → inZone p y = false) : zfind p xs 0 = -1 := zfind_none' hn
set_option maxHeartbeats 3200000 in
theorem zoneOfI (xs : List ZoneD) (p : ByteArray) (v : Value) (w : World) (hok : ∀ x ∈ xs, x.ok) (hp : p.size ≤ maxLen) (h : SliceOf w 2 ZoneD.vals v xs) : Calls Try.prog 75 #[v, .string p] w fun e w' => e = .returned (.int .i64 (zoneOf xs p)) ∧ Below w.heap.size w w' := by
  obtain ⟨A, c, rfl, hl, hm⟩ := h.form
  unfold maxLen at hm
  cases hz : zonesB xs
  · have HV : Hid (zoneOf xs p = -1) := Lib.hid (by unfold zoneOf; rw [hz]; rfl)
    go_enter Try.func75, Try.ntmps75
    go_wp2_with (first | (go_at_call 73; refine (areZonesI xs _ _ hok h).mono ?_; rintro e w1 ⟨rfl, b1⟩) | (go_at_call 65; refine (isPlaceI _ _ hp).mono ?_; rintro e w' ⟨rfl, rfl⟩))
    go_ret
    exact ⟨ret_int HV.out.symm, b1⟩
  cases hpl : plc p
  · have HV : Hid (zoneOf xs p = -1) := Lib.hid (by unfold zoneOf; rw [hpl]; simp)
    go_enter Try.func75, Try.ntmps75
    go_wp2_with (first | (go_at_call 73; refine (areZonesI xs _ _ hok h).mono ?_; rintro e w1 ⟨rfl, b1⟩) | (go_at_call 65; refine (isPlaceI _ _ hp).mono ?_; rintro e w' ⟨rfl, rfl⟩))
    go_ret
    exact ⟨ret_int HV.out.symm, b1⟩
  have HV : Hid (zoneOf xs p = zfind p xs 0) := Lib.hid (by unfold zoneOf; rw [hpl, hz]; rfl)
  go_enter Try.func75, Try.ntmps75
  go_wp2_with (first | (go_at_call 73; refine (areZonesI xs _ _ hok h).mono ?_; rintro e w1 ⟨rfl, b1⟩) | (go_at_call 65; refine (isPlaceI _ _ hp).mono ?_; rintro e w' ⟨rfl, rfl⟩))
  go_loopw [17] (fun i wr => ∃ k : Nat, k ≤ xs.length ∧ i = .int .i64 k ∧ Below w.heap.size w wr ∧ Hid (∀ (j : Nat) (z : ZoneD), j < k → xs[j]? = some z → inZone p z = false)) (fun i _ => xs.length - (intOf i).toNat)
  case atStart => exact ⟨0, Nat.zero_le _, rfl, b1, fun j z hj => by omega⟩
  case round =>
    obtain ⟨k, hk, rfl, hB, H⟩ := hrel
    by_cases hlt : k < xs.length
    · obtain ⟨b_, off, x, rfl, hb_, hx, hc⟩ := h.cells hlt
      obtain ⟨f, l⟩ := x
      have c0 : wr.cell? ⟨b_, off + k * 2, none⟩ = some (.string f) := (hB.cell (p := ⟨b_, _, none⟩) hb_).trans (hc 0 _ rfl)
      have c1 : wr.cell? ⟨b_, off + k * 2 + 1, none⟩ = some (.string l) := (hB.cell (p := ⟨b_, _, none⟩) hb_).trans (hc 1 _ rfl)
      clear hc
      cases hA : (Op.bytesLess f.toList p.toList || f.toList == p.toList)
      · go_wp2
        go_roundw
        case rel => exact ⟨k + 1, by omega, by go_num, (hB.alloc hB.size _), fun j z hj hz => by
          by_cases e : j = k
          · subst e
            obtain rfl : _ = z := by have := hx.out.symm.trans hz; injection this
            unfold inZone lss same; rw [hA]; rfl
          · exact H.out j z (by omega) hz⟩
        case measure => simp [intOf]; omega
      cases hC : (Op.bytesLess p.toList l.toList || p.toList == l.toList)
      · go_wp2
        go_roundw
        case rel => exact ⟨k + 1, by omega, by go_num, (hB.alloc hB.size _), fun j z hj hz => by
          by_cases e : j = k
          · subst e
            obtain rfl : _ = z := by have := hx.out.symm.trans hz; injection this
            unfold inZone lss same; rw [hC]; simp
          · exact H.out j z (by omega) hz⟩
        case measure => simp [intOf]; omega
      · go_wp2
        go_ret
        exact ⟨ret_int (by rw [HV.out, zfind_hit hx.out (by unfold inZone lss same; rw [hA, hC]; rfl) H.out]), (hB.alloc hB.size _)⟩
    · obtain rfl : k = xs.length := by omega
      go_wp2
      go_ret
      exact ⟨ret_int (by rw [HV.out, zfind_none (fun j z hj => H.out j z (List.getElem?_eq_some_iff.1 hj).1 hj)]), hB⟩
set_option maxHeartbeats 3200000 in
theorem zoneOfS (xs : List ZoneD) (p : ByteArray) (v : Value) (w : World) (hok : ∀ x ∈ xs, x.ok) (hp : p.size ≤ maxLen) (h : SliceOf w 2 ZoneD.vals v xs) : Calls Try.prog 78 #[v, .string p] w fun e w' => e = .returned (.int .i64 (zoneOf xs p)) ∧ Below w.heap.size w w' := by
  obtain ⟨A, c, rfl, hl, hm⟩ := h.form
  unfold maxLen at hm
  cases hz : zonesB xs
  · have HV : Hid (zoneOf xs p = -1) := Lib.hid (by unfold zoneOf; rw [hz]; rfl)
    go_enter Try.func78, Try.ntmps78
    go_wp2_with (first | (go_at_call 76; refine (areZonesS xs _ _ hok h).mono ?_; rintro e w1 ⟨rfl, b1⟩) | (go_at_call 61; refine (isPlaceS _ _ hp).mono ?_; rintro e w' ⟨rfl, rfl⟩))
    go_ret
    exact ⟨ret_int HV.out.symm, b1⟩
  cases hpl : plc p
  · have HV : Hid (zoneOf xs p = -1) := Lib.hid (by unfold zoneOf; rw [hpl]; simp)
    go_enter Try.func78, Try.ntmps78
    go_wp2_with (first | (go_at_call 76; refine (areZonesS xs _ _ hok h).mono ?_; rintro e w1 ⟨rfl, b1⟩) | (go_at_call 61; refine (isPlaceS _ _ hp).mono ?_; rintro e w' ⟨rfl, rfl⟩))
    go_ret
    exact ⟨ret_int HV.out.symm, b1⟩
  have HV : Hid (zoneOf xs p = zfind p xs 0) := Lib.hid (by unfold zoneOf; rw [hpl, hz]; rfl)
  go_enter Try.func78, Try.ntmps78
  go_wp2_with (first | (go_at_call 76; refine (areZonesS xs _ _ hok h).mono ?_; rintro e w1 ⟨rfl, b1⟩) | (go_at_call 61; refine (isPlaceS _ _ hp).mono ?_; rintro e w' ⟨rfl, rfl⟩))
  go_loopw [5] (fun i wr => ∃ k : Nat, k ≤ xs.length ∧ i = .int .i64 k ∧ Below w.heap.size w wr ∧ Hid (∀ (j : Nat) (z : ZoneD), j < k → xs[j]? = some z → inZone p z = false)) (fun i _ => xs.length - (intOf i).toNat)
  case atStart => exact ⟨0, Nat.zero_le _, rfl, b1, fun j z hj => by omega⟩
  case round =>
    obtain ⟨k, hk, rfl, hB, H⟩ := hrel
    by_cases hlt : k < xs.length
    · obtain ⟨b_, off, x, rfl, hb_, hx, hc⟩ := h.cells hlt
      obtain ⟨f, l⟩ := x
      have c0 : wr.cell? ⟨b_, off + k * 2, none⟩ = some (.string f) := (hB.cell (p := ⟨b_, _, none⟩) hb_).trans (hc 0 _ rfl)
      have c1 : wr.cell? ⟨b_, off + k * 2 + 1, none⟩ = some (.string l) := (hB.cell (p := ⟨b_, _, none⟩) hb_).trans (hc 1 _ rfl)
      clear hc
      cases hA : (Op.bytesLess f.toList p.toList || f.toList == p.toList)
      · go_wp2
        go_roundw
        case rel => exact ⟨k + 1, by omega, by go_num, hB, fun j z hj hz => by
          by_cases e : j = k
          · subst e
            obtain rfl : _ = z := by have := hx.out.symm.trans hz; injection this
            unfold inZone lss same; rw [hA]; rfl
          · exact H.out j z (by omega) hz⟩
        case measure => simp [intOf]; omega
      cases hC : (Op.bytesLess p.toList l.toList || p.toList == l.toList)
      · go_wp2
        go_roundw
        case rel => exact ⟨k + 1, by omega, by go_num, hB, fun j z hj hz => by
          by_cases e : j = k
          · subst e
            obtain rfl : _ = z := by have := hx.out.symm.trans hz; injection this
            unfold inZone lss same; rw [hC]; simp
          · exact H.out j z (by omega) hz⟩
        case measure => simp [intOf]; omega
      · go_wp2
        go_ret
        exact ⟨ret_int (by rw [HV.out, zfind_hit hx.out (by unfold inZone lss same; rw [hA, hC]; rfl) H.out]), hB⟩
    · obtain rfl : k = xs.length := by omega
      go_wp2
      go_ret
      exact ⟨ret_int (by rw [HV.out, zfind_none (fun j z hj => H.out j z (List.getElem?_eq_some_iff.1 hj).1 hj)]), hB⟩
end Go.Proofs.Yteolobffmldfhaa
