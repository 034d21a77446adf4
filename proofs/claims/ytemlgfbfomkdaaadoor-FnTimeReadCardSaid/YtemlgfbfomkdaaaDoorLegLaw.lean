/- The plain laws of legs as texts: what a text says as a leg. No condition. -/
import Derived.Test.YtemlgfbfomkdaaaDoorLegs
import Derived.Test.YtemlgfbfomkdaaaDoorTimeLaw
namespace Go.Proofs.YtemlgfbfomkdaaaDoor
open Go.RowKit Go.PlainAid
open Go.Lib (itoa decDigits decDigits_two)
def zeroLeg : LegD := ⟨⟨#[]⟩, ⟨#[]⟩, 0, 0, 0, 0⟩
/-- What the digits of days are worth. -/
def dayV (l : List UInt8) : Nat → Int
  | 0 => 0
  | k + 1 => dayV l k + if (l[k]?).getD 0 = 49 then 2 ^ k else 0
theorem dayV_bd (l : List UInt8) : ∀ k : Nat, 0 ≤ dayV l k ∧ dayV l k < 2 ^ k
  | 0 => ⟨Int.le_refl _, by show (0 : Int) < 1; omega⟩
  | k + 1 => by
    have ih := dayV_bd l k
    have e : dayV l (k + 1) = dayV l k + if (l[k]?).getD 0 = 49 then 2 ^ k else 0 := rfl
    have e2 : (2 : Int) ^ (k + 1) = 2 ^ k + 2 ^ k := by rw [Int.pow_succ]; omega
    rw [e, e2]
    split <;> omega
theorem dayV_all : ∀ n : Fin 128, dayV (daysL ((n.val : Nat) : Int) 7) 7 = ((n.val : Nat) : Int) := by decide +kernel
theorem dayV_days {d : Int} (h0 : 0 ≤ d) (h1 : d ≤ 127) : dayV (daysL d 7) 7 = d := by
  obtain ⟨n, rfl⟩ := Int.eq_ofNat_of_zero_le h0
  exact dayV_all ⟨n, by omega⟩
theorem plc_no {s : ByteArray} (h : plc s = true) {c : UInt8} (hc : upC c = false) : c ∉ s.data.toList := by
  obtain ⟨x, y, z, e, hx, hy, hz⟩ := plc_list h
  rw [e]
  intro hm
  simp at hm
  rcases hm with rfl | rfl | rfl
  · rw [hx] at hc; cases hc
  · rw [hy] at hc; cases hc
  · rw [hz] at hc; cases hc
theorem dayC_dig (d : Int) (j : Nat) : dayC d j = 48 ∨ dayC d j = 49 := by
  unfold dayC
  have h0 := Int.emod_nonneg (d / 2 ^ j) (show (2 : Int) ≠ 0 by omega)
  have h1 := Int.emod_lt_of_pos (d / 2 ^ j) (show (0 : Int) < 2 by omega)
  generalize d / 2 ^ j % 2 = g at h0 h1
  rcases (show g = 0 ∨ g = 1 by omega) with rfl | rfl
  · exact .inl rfl
  · exact .inr rfl
theorem days_no (d : Int) (k : Nat) {c : UInt8} (h0 : c ≠ 48) (h1 : c ≠ 49) : c ∉ daysL d k := by
  intro h
  unfold daysL at h
  obtain ⟨j, _, e⟩ := List.mem_map.1 h
  rcases dayC_dig d j with h | h
  · exact h0 (e.symm.trans h)
  · exact h1 (e.symm.trans h)
theorem not_app {c : UInt8} {a b : List UInt8} (h : c ∉ a) (k : c ∉ b) : c ∉ a ++ b := fun hm => (List.mem_append.1 hm).elim h k
theorem leg_split {d : LegD} (h : legG d = true) : IsSplit 32 (legL d) [d.src.data.toList ++ 45 :: d.dst.data.toList, clockL d.start, itoa d.takes, daysL d.days 7, itoa d.room] := by
  obtain ⟨p1, p2, p3, p4, p5, p6, p7⟩ := legG_iff h
  refine ⟨by simp, ?_, fun w hw => ?_⟩
  · unfold legL
    rw [joinC_cons _ _ (by simp), joinC_cons _ _ (by simp), joinC_cons _ _ (by simp), joinC_cons _ _ (by simp)]
    show _ = _
    simp [joinC]
  · simp only [List.mem_cons, List.not_mem_nil, or_false] at hw
    rcases hw with rfl | rfl | rfl | rfl | rfl
    · refine not_app (plc_no p1 (by decide)) ?_
      intro hm
      rcases List.mem_cons.1 hm with e | hm
      · exact absurd e (by decide)
      · exact plc_no p2 (by decide) hm
    · exact clock_no (by omega) (by decide) (by decide)
    · exact itoa_no (by omega) (by decide)
    · exact days_no _ _ (by decide) (by decide)
    · exact itoa_no (by omega) (by decide)
theorem leg_words {d : LegD} (h : legG d = true) {ws : List (List UInt8)} (hs : IsSplit 32 (legL d) ws) : ws = [d.src.data.toList ++ 45 :: d.dst.data.toList, clockL d.start, itoa d.takes, daysL d.days 7, itoa d.room] := split_unique hs (leg_split h)
/-- The leg that is written so. -/
def IsLegT (l : List UInt8) (d : LegD) (ok : Bool) : Prop := (ok = true ∧ legG d = true ∧ legL d = l) ∨ (ok = false ∧ d = zeroLeg ∧ ∀ k : LegD, legG k = true → legL k ≠ l)
theorem leg_none {l : List UInt8} (h : ∀ k : LegD, legG k = true → legL k ≠ l) : IsLegT l zeroLeg false := .inr ⟨rfl, rfl, h⟩
theorem leg_place {d : LegD} (h : legG d = true) : d.src.data.toList.length = 3 ∧ d.dst.data.toList.length = 3 := by
  obtain ⟨p1, p2, -⟩ := legG_iff h
  obtain ⟨x, y, z, e, -⟩ := plc_list p1
  obtain ⟨u, v, t, g, -⟩ := plc_list p2
  rw [e, g]; exact ⟨rfl, rfl⟩
theorem leg_len {l : List UInt8} {ws : List (List UInt8)} (hs : IsSplit 32 l ws) (h : ws.length ≠ 5) : IsLegT l zeroLeg false :=
  leg_none fun k hk e => h (by subst e; rw [leg_words hk hs]; rfl)
theorem leg_seven {l a b c f g : List UInt8} (hs : IsSplit 32 l [a, b, c, f, g]) (h : a.length ≠ 7 ∨ f.length ≠ 7) : IsLegT l zeroLeg false :=
  leg_none fun k hk e => by
    subst e
    have hw := leg_words hk hs
    injection hw with e1 hw
    injection hw with e2 hw
    injection hw with e3 hw
    injection hw with e4 hw
    obtain ⟨l1, l2⟩ := leg_place hk
    rcases h with h | h
    · apply h; rw [e1, List.length_append, List.length_cons, l1, l2]
    · apply h; rw [e4, daysL_len]
/-- Where both ways meet: the parts that were read, and the text written from them. -/
def LegRead (l a b c f g : List UInt8) (d : LegD) : Prop := IsSplit 32 l [a, b, c, f, g] ∧ IsClock b d.start ∧ (∃ o, IsNum c d.takes o) ∧ (∃ o, IsNum g d.room o) ∧ d.days = dayV f 7 ∧ ∀ x y : ByteArray, plc x = true → plc y = true → a = x.data.toList ++ 45 :: y.data.toList → d.src = x ∧ d.dst = y
theorem leg_no {l a b c f g : List UInt8} {d : LegD} (h : LegRead l a b c f g d) (hd : legOf d ≠ l) : IsLegT l zeroLeg false :=
  leg_none fun k hk e => by
    obtain ⟨hs, hb, ⟨o, hc⟩, ⟨o2, hg⟩, hf, ha⟩ := h
    have hw := leg_words hk (by rw [e]; exact hs)
    injection hw with e1 hw
    injection hw with e2 hw
    injection hw with e3 hw
    injection hw with e4 hw
    injection hw with e5 _
    obtain ⟨p1, p2, p3, p4, p5, p6, p7⟩ := legG_iff hk
    obtain ⟨q1, q2⟩ := ha k.src k.dst p1 p2 e1
    rw [e2] at hb; rw [e3] at hc; rw [e4] at hf; rw [e5] at hg
    have q3 : d.start = k.start := hb.unique (.inl ⟨by omega, by omega, rfl⟩)
    have q4 := (hc.of_itoa (by omega) (by omega)).1
    have q5 := (hg.of_itoa (by omega) (by omega)).1
    rw [dayV_days (by omega) (by omega)] at hf
    have hdk : d = k := by
      obtain ⟨d1, d2, d3, d4, d5, d6⟩ := d
      obtain ⟨k1, k2, k3, k4, k5, k6⟩ := k
      simp only at q1 q2 q3 q4 q5 hf
      rw [q1, q2, q3, q4, q5, hf]
    rw [hdk] at hd
    exact hd ((legOf_yes hk).trans e)
theorem leg_yes {l : List UInt8} {d : LegD} (h0 : l ≠ []) (h : legOf d = l) : IsLegT l d true := by
  cases hg : legG d
  · rw [legOf_no hg] at h; exact absurd h.symm h0
  · exact .inl ⟨rfl, hg, (legOf_yes hg).symm.trans h⟩
theorem split_ne {c : UInt8} {l a b : List UInt8} {ws : List (List UInt8)} (h : IsSplit c l (a :: b :: ws)) : l ≠ [] := by
  rw [← h.2.1, joinC_cons _ _ (by simp)]
  simp
theorem leg_inj {d k : LegD} (h : legG d = true) (g : legG k = true) (e : legL d = legL k) : d = k := by
  have hw := leg_words h (by rw [e]; exact leg_split g)
  injection hw with e1 hw
  injection hw with e2 hw
  injection hw with e3 hw
  injection hw with e4 hw
  injection hw with e5 _
  obtain ⟨p1, p2, p3, p4, p5, p6, p7⟩ := legG_iff h
  obtain ⟨q1, q2, q3, q4, q5, q6, q7⟩ := legG_iff g
  obtain ⟨f1, f2⟩ := List.append_inj e1 (by rw [(leg_place g).1, (leg_place h).1])
  injection f2 with _ f2
  have r1 := data_inj f1
  have r2 := data_inj f2
  have r3 := clock_inj (by omega) (by omega) (by omega) (by omega) e2
  have r4 := itoa_inj e3
  have r5 := itoa_inj e5
  have r6 : k.days = d.days := by rw [← dayV_days (d := k.days) (by omega) (by omega), e4, dayV_days (by omega) (by omega)]
  obtain ⟨d1, d2, d3, d4, d5, d6⟩ := d
  obtain ⟨k1, k2, k3, k4, k5, k6⟩ := k
  simp only at r1 r2 r3 r4 r5 r6
  rw [r1, r2, r3, r4, r5, r6]
theorem IsLegT.unique {l : List UInt8} {d k : LegD} {a b : Bool} (h : IsLegT l d a) (g : IsLegT l k b) : d = k ∧ a = b := by
  rcases h with ⟨rfl, h1, h2⟩ | ⟨rfl, rfl, h1⟩ <;> rcases g with ⟨rfl, g1, g2⟩ | ⟨rfl, rfl, g1⟩
  · exact ⟨leg_inj h1 g1 (h2.trans g2.symm), rfl⟩
  · exact absurd h2 (g1 _ h1)
  · exact absurd g2 (h1 _ g1)
  · exact ⟨rfl, rfl⟩
theorem cut_src {a : List UInt8} {x y : ByteArray} (hx : plc x = true) (e : a = x.data.toList ++ 45 :: y.data.toList) : (⟨(Go.Lib.cut a [45]).1.toArray⟩ : ByteArray) = x ∧ (⟨(Go.Lib.cut a [45]).2.1.toArray⟩ : ByteArray) = y := by
  obtain ⟨c1, c2⟩ := lib_cut (plc_no hx (c := 45) (by decide)) e
  rw [c1, c2]
  exact ⟨data_inj rfl, data_inj rfl⟩
theorem ext_src {s x y : ByteArray} (hx : plc x = true) (hy : plc y = true) (e : s.data.toList = x.data.toList ++ 45 :: y.data.toList) : s.extract 0 3 = x ∧ s.extract 4 7 = y := by
  obtain ⟨a, b, c, ex, -⟩ := plc_list hx
  obtain ⟨p, q, r, ey, -⟩ := plc_list hy
  constructor
  · apply data_inj
    rw [Lib.extract_data, e, ex, ey]; rfl
  · apply data_inj
    rw [Lib.extract_data, e, ex, ey]; rfl
end Go.Proofs.YtemlgfbfomkdaaaDoor
