/- The plain law of zones: a place is in one zone at most. No condition. -/
import Derived.Test.YtdnakeogofgpaaaZoneOf
import Derived.Sort.Walk0
import Derived.Sort.LotA
namespace Go.Proofs.Ytdnakeogofgpaaa
open Go.RowKit Go.PlainAid
theorem lss_lt (a b : ByteArray) : lss a b = Sort.ltStr a.toList b.toList := by unfold lss Sort.ltStr; rw [bytesLess_eq]
theorem lss_trans {a b c : ByteArray} (h1 : lss a b = true) (h2 : lss b c = true) : lss a c = true := by rw [lss_lt] at *; exact Sort.swo_ltStr.trans _ _ _ h1 h2
theorem lss_irr (a : ByteArray) : lss a a = false := by rw [lss_lt]; exact Sort.swo_ltStr.irrefl _
theorem same_eq {a b : ByteArray} (h : same a b = true) : a.toList = b.toList := by unfold same at h; exact eq_of_beq h
theorem lss_congr_left {a b : ByteArray} (h : same a b = true) (c : ByteArray) : lss a c = lss b c := by unfold lss; rw [same_eq h]
theorem lss_congr_right {a b : ByteArray} (h : same a b = true) (c : ByteArray) : lss c a = lss c b := by unfold lss; rw [same_eq h]
/-- At most, then less. -/
theorem le_lss {a b c : ByteArray} (h1 : (lss a b || same a b) = true) (h2 : lss b c = true) : lss a c = true := by
  rcases Bool.or_eq_true _ _ ▸ h1 with h | h
  · exact lss_trans h h2
  · rw [lss_congr_left h]; exact h2
theorem lss_le {a b c : ByteArray} (h1 : lss a b = true) (h2 : (lss b c || same b c) = true) : lss a c = true := by
  rcases Bool.or_eq_true _ _ ▸ h2 with h | h
  · exact lss_trans h1 h
  · rw [← lss_congr_right h]; exact h1
theorem zones_at {xs : List ZoneD} (h : zonesB xs = true) {k : Nat} {z : ZoneD} (hz : xs[k]? = some z) : zoneOk (lastAt xs k) z = true := by
  cases e : zoneOk (lastAt xs k) z
  · rw [zonesB_bad hz e] at h; cases h
  · rfl
theorem zones_next {xs : List ZoneD} (h : zonesB xs = true) {k : Nat} {y z : ZoneD} (hy : xs[k]? = some y) (hz : xs[k + 1]? = some z) : lss y.last z.first = true := by
  have := (zoneOk_iff.1 (zones_at h hz)).2.2.2
  simp only [lastAt, hy, Option.map_some] at this
  rw [lss_flip z.first y.last]
  exact this
theorem zones_before {xs : List ZoneD} (h : zonesB xs = true) {i : Nat} {y : ZoneD} (hy : xs[i]? = some y) : ∀ (d : Nat) (z : ZoneD), xs[i + 1 + d]? = some z → lss y.last z.first = true
  | 0, z, hz => zones_next h hy hz
  | d + 1, z, hz => by
    have hlt : i + 1 + d < xs.length := by have := (List.getElem?_eq_some_iff.1 hz).1; omega
    have hm : xs[i + 1 + d]? = some xs[i + 1 + d] := List.getElem?_eq_getElem hlt
    have h1 := zones_before h hy d _ hm
    have h2 := (zoneOk_iff.1 (zones_at h hm)).2.2.1
    exact lss_trans (lss_le h1 h2) (zones_next h hm hz)
theorem zone_apart {xs : List ZoneD} (h : zonesB xs = true) {p : ByteArray} {i j : Nat} {y z : ZoneD} (hij : i < j) (hy : xs[i]? = some y) (hz : xs[j]? = some z) (h1 : inZone p y = true) (h2 : inZone p z = true) : False := by
  unfold inZone at h1 h2
  rw [Bool.and_eq_true] at h1 h2
  have hb := zones_before h hy (j - i - 1) z (by rw [show i + 1 + (j - i - 1) = j by omega]; exact hz)
  have := le_lss h1.2 (lss_le hb h2.1)
  rw [lss_irr] at this
  cases this
theorem zfind_in {xs : List ZoneD} (h : zonesB xs = true) {p : ByteArray} {k : Nat} {z : ZoneD} (hz : xs[k]? = some z) (hi : inZone p z = true) : zfind p xs 0 = (k : Int) :=
  zfind_hit hz hi (fun j y hj hy => by
    cases e : inZone p y
    · rfl
    · exact (zone_apart h hj hy hz e hi).elim)
theorem zoneOf_in {xs : List ZoneD} (h : zonesB xs = true) {p : ByteArray} (hp : plc p = true) {k : Nat} {z : ZoneD} (hz : xs[k]? = some z) (hi : inZone p z = true) : zoneOf xs p = (k : Int) := by
  unfold zoneOf; rw [h, hp, zfind_in h hz hi]; rfl
theorem zoneOf_first {xs : List ZoneD} (h : zonesB xs = true) {k : Nat} {z : ZoneD} (hz : xs[k]? = some z) : zoneOf xs z.first = (k : Int) := by
  obtain ⟨h1, h2, h3, -⟩ := zoneOk_iff.1 (zones_at h hz)
  exact zoneOf_in h h1 hz (by unfold inZone; rw [h3]; simp [same])
theorem zoneOf_last {xs : List ZoneD} (h : zonesB xs = true) {k : Nat} {z : ZoneD} (hz : xs[k]? = some z) : zoneOf xs z.last = (k : Int) := by
  obtain ⟨h1, h2, h3, -⟩ := zoneOk_iff.1 (zones_at h hz)
  exact zoneOf_in h h2 hz (by unfold inZone; rw [h3]; simp [same])
/-- How many of the first k zones hold the place. -/
def hitsN (p : ByteArray) (xs : List ZoneD) (k : Nat) : Int := if plc p && (xs.take k).any (inZone p) then 1 else 0
theorem hitsN_zero (p : ByteArray) (xs : List ZoneD) : hitsN p xs 0 = 0 := by simp [hitsN]
theorem hitsN_skip {p : ByteArray} {xs : List ZoneD} {k : Nat} {z : ZoneD} (hz : xs[k]? = some z) (hi : inZone p z = false) : hitsN p xs (k + 1) = hitsN p xs k := by
  obtain ⟨hlt, e⟩ := List.getElem?_eq_some_iff.1 hz
  unfold hitsN
  rw [List.take_succ_eq_append_getElem hlt, e]; simp [hi]
theorem hitsN_not {p : ByteArray} (hp : plc p = false) (xs : List ZoneD) (k : Nat) : hitsN p xs k = 0 := by unfold hitsN; rw [hp]; rfl
theorem hitsN_hit {xs : List ZoneD} (h : zonesB xs = true) {p : ByteArray} (hp : plc p = true) {k : Nat} {z : ZoneD} (hz : xs[k]? = some z) (hi : inZone p z = true) : hitsN p xs k = 0 ∧ hitsN p xs (k + 1) = 1 := by
  obtain ⟨hlt, e⟩ := List.getElem?_eq_some_iff.1 hz
  constructor
  · unfold hitsN
    have : (xs.take k).any (inZone p) = false := by
      rw [List.any_eq_false]
      intro y hy hc
      obtain ⟨j, hj, e'⟩ := List.getElem_of_mem hy
      have hjk : j < k := by rw [List.length_take] at hj; omega
      have hyj : xs[j]? = some y := by rw [← e', List.getElem_take]; exact List.getElem?_eq_getElem (by omega)
      exact zone_apart h hjk hyj hz hc hi
    rw [this]; simp
  · unfold hitsN
    rw [List.take_succ_eq_append_getElem hlt, e, hp]; simp [hi]
theorem hitsN_end {xs : List ZoneD} (h : zonesB xs = true) (p : ByteArray) : hitsN p xs xs.length = 1 ∨ (hitsN p xs xs.length = 0 ∧ zoneOf xs p = -1) := by
  unfold hitsN zoneOf
  rw [List.take_length, h]
  cases hp : plc p
  · right; simp
  · cases ha : xs.any (inZone p)
    · right
      refine ⟨by simp, ?_⟩
      simp only [Bool.and_self, if_true]
      exact zfind_none (fun j y hy => by
        cases e : inZone p y
        · rfl
        · rw [List.any_eq_false] at ha; exact absurd e (ha y (List.mem_of_getElem? hy)))
    · left; simp
end Go.Proofs.Ytdnakeogofgpaaa
