/- The plain laws of parcels as texts: what a text says as a parcel. No condition. -/
import Derived.Test.YteicnjemaemijaaGreatDoorParText
import Derived.Test.YteicnjemaemijaaGreatDoorParseLab
import Derived.Test.YteicnjemaemijaaGreatDoorSplitKit
namespace Go.Proofs.YteicnjemaemijaaGreatDoor
open Go.RowKit Go.PlainAid
open Go.Lib (itoa decDigits decDigits_two)
theorem num_no {n : Int} (h : 0 ≤ n) {c : UInt8} (hc : digC c = false) : c ∉ itoa n := by
  rw [itoa_nat h]
  intro hm
  have := digs_of_mem (dec_digs _) hm
  rw [hc] at this; cases this
theorem lab_no_c {d : LabelD} (h : labOk d = true) {c : UInt8} (hc : dokC c = false) : c ∉ flabL d := fun hm => by
  have := flab_ok h
  rw [digOk_not hm hc] at this; cases this
theorem place_no {s : ByteArray} (h : plc s = true) {c : UInt8} (hc : upC c = false) : c ∉ s.data.toList := by
  obtain ⟨x, y, z, e, hx, hy, hz⟩ := plc_list h
  rw [e]
  intro hm
  simp at hm
  rcases hm with rfl | rfl | rfl
  · rw [hx] at hc; cases hc
  · rw [hy] at hc; cases hc
  · rw [hz] at hc; cases hc
theorem join_no {b c : UInt8} (hb : c ≠ b) : ∀ {ws : List (List UInt8)}, (∀ w ∈ ws, c ∉ w) → c ∉ joinC b ws
  | [], _ => by simp [joinC]
  | [w], h => h w (by simp)
  | w :: v :: r, h => by
    rw [joinC_cons b w (by simp)]
    intro hm
    rcases List.mem_append.1 hm with hm | hm
    · exact h w (by simp) hm
    · rcases List.mem_cons.1 hm with e | hm
      · exact hb e
      · exact join_no hb (ws := v :: r) (fun u hu => h u (List.mem_cons_of_mem _ hu)) hm
theorem sides_pos {xs : List Int} (h : three xs = true) : xs ≠ [] ∧ ∀ x ∈ xs, 1 ≤ x ∧ x ≤ 2000 := by
  obtain ⟨x, y, z, rfl, hx, hy, hz⟩ := three_of h
  refine ⟨by simp, fun u hu => ?_⟩
  simp at hu
  rcases hu with rfl | rfl | rfl <;> assumption
theorem sides_split {xs : List Int} (h : three xs = true) : IsSplit 120 (sidesL xs) (xs.map itoa) := by
  obtain ⟨h0, h1⟩ := sides_pos h
  refine ⟨by simpa using h0, rfl, fun w hw => ?_⟩
  obtain ⟨x, hx, rfl⟩ := List.mem_map.1 hw
  exact num_no (by have := h1 x hx; omega) (by decide)
theorem par_split {d : ParcelD} (h : parG d = true) : IsSplit 32 (parL d) [flabL d.label, d.src.data.toList, itoa d.weight, sidesL d.sides, itoa d.value] := by
  obtain ⟨p1, p2, p3, p4, p5⟩ := parG_iff h
  refine ⟨by simp, ?_, fun w hw => ?_⟩
  · unfold parL
    rw [joinC_cons _ _ (by simp), joinC_cons _ _ (by simp), joinC_cons _ _ (by simp), joinC_cons _ _ (by simp)]
    rfl
  · simp only [List.mem_cons, List.not_mem_nil, or_false] at hw
    rcases hw with rfl | rfl | rfl | rfl | rfl
    · exact lab_no_c p1 (by decide)
    · exact place_no p2 (by decide)
    · exact num_no (by omega) (by decide)
    · refine join_no (by decide) fun w hw => ?_
      obtain ⟨x, hx, rfl⟩ := List.mem_map.1 hw
      exact num_no (by have := (sides_pos p4).2 x hx; omega) (by decide)
    · exact num_no (by omega) (by decide)
theorem par_words {d : ParcelD} (h : parG d = true) {ws : List (List UInt8)} (hs : IsSplit 32 (parL d) ws) : ws = [flabL d.label, d.src.data.toList, itoa d.weight, sidesL d.sides, itoa d.value] := split_unique hs (par_split h)
def zeroPar : ParcelD := ⟨zeroLab, ⟨#[]⟩, 0, [], 0⟩
/-- The parcel that is written so. -/
def IsPar (l : List UInt8) (d : ParcelD) (ok : Bool) : Prop := (ok = true ∧ parG d = true ∧ parL d = l) ∨ (ok = false ∧ d = zeroPar ∧ ∀ k : ParcelD, parG k = true → parL k ≠ l)
theorem par_none {l : List UInt8} (h : ∀ k : ParcelD, parG k = true → parL k ≠ l) : IsPar l zeroPar false := .inr ⟨rfl, rfl, h⟩
theorem par_len {l : List UInt8} {ws : List (List UInt8)} (hs : IsSplit 32 l ws) (h : ws.length ≠ 5) : IsPar l zeroPar false :=
  par_none fun k hk e => h (by subst e; rw [par_words hk hs]; rfl)
/-- Numbers read from words, one by one. -/
inductive Nums : List (List UInt8) → List Int → Prop
  | nil : Nums [] []
  | cons {w : List UInt8} {x : Int} {ok : Bool} {ws : List (List UInt8)} {xs : List Int} (h : IsNum w x ok) (t : Nums ws xs) : Nums (w :: ws) (x :: xs)
theorem Nums.snoc {ws : List (List UInt8)} {xs : List Int} {w : List UInt8} {x : Int} {ok : Bool} (h : Nums ws xs) (k : IsNum w x ok) : Nums (ws ++ [w]) (xs ++ [x]) := by
  induction h with
  | nil => exact .cons k .nil
  | cons h t ih => exact .cons h ih
theorem Nums.itoa_eq : ∀ {ys xs : List Int}, Nums (ys.map itoa) xs → (∀ y ∈ ys, 1 ≤ y ∧ y ≤ 2000) → xs = ys
  | [], _, h, _ => by cases h; rfl
  | y :: ys, _, h, hb => by
    cases h with
    | cons h t =>
      have := hb y (by simp)
      rw [(h.of_itoa (by omega) (by omega)).1, t.itoa_eq fun z hz => hb z (List.mem_cons_of_mem _ hz)]
/-- Where both ways meet: the parts that were read. -/
def ParRead (l a b c f g : List UInt8) (d : ParcelD) : Prop := IsSplit 32 l [a, b, c, f, g] ∧ (∃ o, IsLab a d.label o) ∧ b = d.src.data.toList ∧ (∃ o, IsNum c d.weight o) ∧ (∃ ws, IsSplit 120 f ws ∧ Nums ws d.sides) ∧ ∃ o, IsNum g d.value o
theorem par_parts {l a b c f g : List UInt8} {d k : ParcelD} (h : ParRead l a b c f g d) (hk : parG k = true) (e : parL k = l) : d = k := by
  obtain ⟨hs, ⟨o, ha⟩, hb, ⟨o2, hc⟩, ⟨ws, hf, hn⟩, o3, hg⟩ := h
  subst e
  have hw := par_words hk hs
  injection hw with e1 hw
  injection hw with e2 hw
  injection hw with e3 hw
  injection hw with e4 hw
  injection hw with e5 _
  obtain ⟨p1, p2, p3, p4, p5⟩ := parG_iff hk
  rw [e1] at ha; rw [e2] at hb; rw [e3] at hc; rw [e4] at hf; rw [e5] at hg
  have q1 : d.label = k.label := (ha.unique (.inl ⟨rfl, p1, rfl⟩)).1
  have q2 : d.src = k.src := data_inj hb.symm
  have q3 := (hc.of_itoa (by omega) (by omega)).1
  have q5 := (hg.of_itoa (by omega) (by omega)).1
  rw [split_unique hf (sides_split p4)] at hn
  have q4 := hn.itoa_eq (sides_pos p4).2
  obtain ⟨d1, d2, d3, d4, d5⟩ := d
  obtain ⟨k1, k2, k3, k4, k5⟩ := k
  simp only at q1 q2 q3 q4 q5
  rw [q1, q2, q3, q4, q5]
theorem par_no {l a b c f g : List UInt8} {d : ParcelD} (h : ParRead l a b c f g d) (hd : parOf d ≠ l) : IsPar l zeroPar false :=
  par_none fun k hk e => by
    rw [par_parts h hk e] at hd
    exact hd ((parOf_yes hk).trans e)
theorem par_nolab {l a b c f g : List UInt8} {d : LabelD} (hs : IsSplit 32 l [a, b, c, f, g]) (h : IsLab a d false) : IsPar l zeroPar false :=
  par_none fun k hk e => by
    subst e
    have hw := par_words hk hs
    injection hw with e1 _
    rw [e1] at h
    have := (h.unique (.inl ⟨rfl, (parG_iff hk).1, rfl⟩)).2
    cases this
theorem par_yes {l : List UInt8} {d : ParcelD} (h0 : l ≠ []) (h : parOf d = l) : IsPar l d true := by
  cases hg : parG d
  · rw [parOf_no hg] at h; exact absurd h.symm h0
  · exact .inl ⟨rfl, hg, (parOf_yes hg).symm.trans h⟩
theorem split_ne5 {c : UInt8} {l a b : List UInt8} {ws : List (List UInt8)} (h : IsSplit c l (a :: b :: ws)) : l ≠ [] := by
  rw [← h.2.1, joinC_cons _ _ (by simp)]
  simp
/-- A text that is written is read as it was. -/
theorem par_self {d : ParcelD} (h : parG d = true) : ∃ a b c f g, ParRead (parL d) a b c f g d := by
  obtain ⟨p1, p2, p3, p4, p5⟩ := parG_iff h
  refine ⟨_, _, _, _, _, par_split h, ⟨true, .inl ⟨rfl, p1, rfl⟩⟩, rfl, ⟨true, .inl ⟨rfl, by omega, by omega, rfl⟩⟩, ⟨_, sides_split p4, ?_⟩, true, .inl ⟨rfl, by omega, by omega, rfl⟩⟩
  have hb := (sides_pos p4).2
  generalize d.sides = xs at hb
  induction xs with
  | nil => exact .nil
  | cons x xs ih =>
    have := hb x (by simp)
    exact .cons (ok := true) (.inl ⟨rfl, by omega, by omega, rfl⟩) (ih fun y hy => hb y (List.mem_cons_of_mem _ hy))
theorem par_inj {d k : ParcelD} (h : parG d = true) (g : parG k = true) (e : parL d = parL k) : d = k := by
  obtain ⟨a, b, c, f, g', hr⟩ := par_self h
  exact par_parts hr g e.symm
theorem IsPar.unique {l : List UInt8} {d k : ParcelD} {a b : Bool} (h : IsPar l d a) (g : IsPar l k b) : d = k ∧ a = b := by
  rcases h with ⟨rfl, h1, h2⟩ | ⟨rfl, rfl, h1⟩ <;> rcases g with ⟨rfl, g1, g2⟩ | ⟨rfl, rfl, g1⟩
  · exact ⟨par_inj h1 g1 (h2.trans g2.symm), rfl⟩
  · exact absurd h2 (g1 _ h1)
  · exact absurd g2 (h1 _ g1)
  · exact ⟨rfl, rfl⟩
end Go.Proofs.YteicnjemaemijaaGreatDoor
