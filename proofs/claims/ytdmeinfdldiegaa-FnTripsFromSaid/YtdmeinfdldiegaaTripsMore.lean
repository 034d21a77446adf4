/- What the law of trips in two spans wants: lists joined, what is said of each trip, comparing two lists, a byte of a code. No condition. -/
import Derived.Test.YtdmeinfdldiegaaTripsS
import Derived.Test.YtdmeinfdldiegaaTripMark
import Derived.Deep.RegionWith
namespace Go.Proofs.Ytdmeinfdldiegaa
open Go.RowKit Go.PlainAid
set_option maxRecDepth 100000
set_option linter.unusedVariables false
theorem IsTrips.join {legs : List LegD} {off : List Int} {p : ByteArray} {a m b : Int} {L1 L2 : List TripD} (h1 : IsTrips legs off p a m L1) (h2 : IsTrips legs off p m b L2) (am : a ≤ m) (mb : m ≤ b) : IsTrips legs off p a b (L1 ++ L2) := by
  refine ⟨fun t => ?_, ?_⟩
  · rw [List.mem_append, h1.mem t, h2.mem t]
    constructor
    · rintro (⟨h, -⟩ | ⟨h, -⟩)
      · exact ⟨⟨h.src, h.runs, h.from_, by have := h.to_; omega⟩, trivial⟩
      · exact ⟨⟨h.src, h.runs, by have := h.from_; omega, h.to_⟩, trivial⟩
    · rintro ⟨h, -⟩
      by_cases hm : sT legs t < m
      · exact .inl ⟨⟨h.src, h.runs, h.from_, hm⟩, trivial⟩
      · exact .inr ⟨⟨h.src, h.runs, by omega, h.to_⟩, trivial⟩
  · have o1 := h1.ord
    have o2 := h2.ord
    unfold RiseT at *
    rw [List.pairwise_append]
    refine ⟨o1, o2, fun x hx y hy => ?_⟩
    have g1 := ((h1.mem x).1 hx).1.to_
    have g2 := ((h2.mem y).1 hy).1.from_
    exact ltT_iff.2 (.inl (by omega))
theorem TripsAre.join {legs : List LegD} {off : List Int} {ch : Int} {p : ByteArray} {a m b : Int} {L L1 L2 : List TripD} (h : TripsAre legs off ch p a b L) (h1 : TripsAre legs off ch p a m L1) (h2 : TripsAre legs off ch p m b L2) (am : a ≤ m) (mb : m ≤ b) : L = L1 ++ L2 := by
  cases hn : netB legs off ch
  · rw [h.2 hn, h1.2 hn, h2.2 hn]; rfl
  · exact (h.1 hn).unique ((h1.1 hn).join (h2.1 hn) am mb)
/-- Of each trip: it runs, it is from the place, in the span; none behind it starts before it. -/
theorem TripsAre.each {legs : List LegD} {off : List Int} {ch : Int} {p : ByteArray} {a b : Int} {L : List TripD} (h : TripsAre legs off ch p a b L) {i : Nat} {t : TripD} (ht : L[i]? = some t) :
    netB legs off ch = true ∧ runsOnB legs off ch t.leg t.day = true ∧ ∃ (q : Nat) (x : LegD), t.leg = (q : Int) ∧ q < legs.length ∧ legs[q]? = some x ∧ x.src = p ∧ a ≤ sT legs t ∧ sT legs t < b ∧ 0 ≤ t.day ∧ t.day ≤ 60 := by
  cases hn : netB legs off ch
  · rw [h.2 hn] at ht; simp at ht
  · have g := (((h.1 hn).mem t).1 (List.mem_of_getElem? ht)).1
    have bx := g.box
    obtain ⟨x, hx, hp⟩ := g.src
    obtain ⟨q, hq⟩ := Int.eq_ofNat_of_zero_le bx.1.1
    refine ⟨rfl, by unfold runsOnB; rw [hn, g.runs]; rfl, q, x, hq, by omega, ?_, hp, g.from_, g.to_, bx.2⟩
    rw [hq] at hx; simpa using hx
theorem TripsAre.order {legs : List LegD} {off : List Int} {ch : Int} {p : ByteArray} {a b : Int} {L : List TripD} (h : TripsAre legs off ch p a b L) {i : Nat} {t s : TripD} (hs : L[i]? = some s) (ht : L[i + 1]? = some t) : sT legs s ≤ sT legs t := by
  cases hn : netB legs off ch
  · rw [h.2 hn] at ht; simp at ht
  · have o := (h.1 hn).ord
    unfold RiseT at o
    obtain ⟨h1, e1⟩ := List.getElem?_eq_some_iff.1 hs
    obtain ⟨h2, e2⟩ := List.getElem?_eq_some_iff.1 ht
    have := List.pairwise_iff_getElem.1 o i (i + 1) h1 h2 (by omega)
    rw [e1, e2, ltT_iff] at this
    omega
set_option maxHeartbeats 1600000 in
theorem trips_same (xs : List TripD) (u v : Value) (w : World) (hu : SliceOf w 2 TripD.vals u xs) (hv : SliceOf w 2 TripD.vals v xs) : Calls Try.prog 19 #[u, v] w fun e w' => e = .returned (.bool true) ∧ Below w.heap.size w w' := by
  obtain ⟨A, c_, rfl, hl, hm⟩ := hu.form
  obtain ⟨A', c', rfl, hl', hm'⟩ := hv.form
  unfold maxLen at hm hm'
  go_enter Try.func19, Try.ntmps19
  go_wp2
  go_loopw [5] (fun i wr => ∃ k : Nat, k ≤ xs.length ∧ i = .int .i64 k ∧ Below w.heap.size w wr) (fun i _ => xs.length - (intOf i).toNat)
  case atStart => exact ⟨0, Nat.zero_le _, rfl, Below.refl _ _⟩
  case round =>
    obtain ⟨k, hk, rfl, hB⟩ := hrel
    by_cases hlt : k < xs.length
    · obtain ⟨b_, off, x, rfl, hb_, hx, hc⟩ := hu.cells hlt
      obtain ⟨b2, off2, y, rfl, hb2, hy, hd⟩ := hv.cells hlt
      obtain rfl : x = y := by have := hx.out.symm.trans hy.out; injection this
      obtain ⟨x0, x1⟩ := x
      have c0 : wr.cell? ⟨b_, off + k * 2, none⟩ = some (.int .i64 x0) := (hB.cell (p := ⟨b_, _, none⟩) hb_).trans (hc 0 _ rfl)
      have d0 : wr.cell? ⟨b2, off2 + k * 2, none⟩ = some (.int .i64 x0) := (hB.cell (p := ⟨b2, _, none⟩) hb2).trans (hd 0 _ rfl)
      have c1 : wr.cell? ⟨b_, off + k * 2 + 1, none⟩ = some (.int .i64 x1) := (hB.cell (p := ⟨b_, _, none⟩) hb_).trans (hc 1 _ rfl)
      have d1 : wr.cell? ⟨b2, off2 + k * 2 + 1, none⟩ = some (.int .i64 x1) := (hB.cell (p := ⟨b2, _, none⟩) hb2).trans (hd 1 _ rfl)
      clear hc hd
      have k0 : (0 : Int) ≤ (k : Int) := by omega
      have k1 : (k : Int) < (xs.length : Int) := by omega
      go_wp2
      go_quiet (fail)
      go_wp2
      go_roundw
      case rel => exact ⟨k + 1, by omega, by go_num, by first | exact below_drewN hB _ | exact hB.drew⟩
      case measure => simp [intOf]; omega
    · obtain rfl : k = xs.length := by omega
      go_wp2
      go_ret
      exact ⟨rfl, hB⟩
theorem atT_any (xs : List Int) (v : Value) (i : Nat) (w : World) (hi : i ≤ 100) (hok : ∀ x ∈ xs, okB x) (h : SliceOf w 1 vB v xs) : Calls Try.prog 16 #[v, .int .i64 (i : Int)] w fun e w' => ∃ x : Int, e = .returned (.int .i64 x) ∧ 0 ≤ x ∧ x ≤ 255 ∧ w = w' := by
  obtain ⟨A, c, rfl, hle, hm⟩ := h.form
  unfold maxLen at hm
  by_cases hlt : i < xs.length
  · obtain ⟨b_, off_, x, rfl, hb_, hx, hcell⟩ := h.cells hlt
    have y0 : w.cell? ⟨b_, off_ + i, none⟩ = some (.int .u8 x) := by simpa using hcell 0 _ rfl
    obtain ⟨o1, o2⟩ := hok x (mem_of hx.out)
    have e0 : (0 : Int) ≤ (i : Int) := by omega
    have e1 : (i : Int) < (xs.length : Int) := by omega
    go_enter Try.func16, Try.ntmps16
    go_wp2
    go_ret
    exact ⟨_, rfl, o1, by omega, rfl⟩
  · have e1 : ¬ (i : Int) < (xs.length : Int) := by omega
    go_enter Try.func16, Try.ntmps16
    go_wp2
    go_ret
    exact ⟨0, rfl, by omega, by omega, rfl⟩
end Go.Proofs.Ytdmeinfdldiegaa
