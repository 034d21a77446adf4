/- The plain law of the labels' order: one order, whole. No condition. -/
import Derived.Test.YtogdmidldaeheaaCmpLab
namespace Go.Proofs.Ytogdmidldaeheaa
open Go.RowKit Go.PlainAid
theorem cmpB_anti : ∀ a b : List UInt8, Lib.compareBytes b a = - Lib.compareBytes a b
  | [], [] => rfl
  | [], _ :: _ => rfl
  | _ :: _, [] => rfl
  | a :: xs, b :: ys => by
    unfold Lib.compareBytes
    by_cases h1 : a < b
    · have h2 : ¬ b < a := by rw [UInt8.lt_iff_toNat_lt] at *; omega
      rw [if_neg h2, if_pos h1, if_pos h1]; rfl
    · by_cases h2 : b < a
      · rw [if_pos h2, if_neg h1, if_pos h2]
      · rw [if_neg h2, if_neg h1, if_neg h1, if_neg h2]; exact cmpB_anti xs ys
theorem cmpB_zero : ∀ a b : List UInt8, Lib.compareBytes a b = 0 ↔ a = b
  | [], [] => by simp [Lib.compareBytes]
  | [], _ :: _ => by simp [Lib.compareBytes]
  | _ :: _, [] => by simp [Lib.compareBytes]
  | a :: xs, b :: ys => by
    unfold Lib.compareBytes
    by_cases h1 : a < b
    · have : a ≠ b := by intro e; subst e; rw [UInt8.lt_iff_toNat_lt] at h1; omega
      simp [h1, this]
    · by_cases h2 : b < a
      · have : a ≠ b := by intro e; subst e; rw [UInt8.lt_iff_toNat_lt] at h2; omega
        simp [h1, h2, this]
      · have e : a = b := by rw [UInt8.lt_iff_toNat_lt] at h1 h2; exact UInt8.toNat_inj.1 (by omega)
        subst e
        simp [h1, cmpB_zero xs ys]
theorem cmpB_trans : ∀ a b c : List UInt8, Lib.compareBytes a b ≤ 0 → Lib.compareBytes b c ≤ 0 → Lib.compareBytes a c ≤ 0
  | [], _, [], _, _ => by simp [Lib.compareBytes]
  | [], _, _ :: _, _, _ => by simp [Lib.compareBytes]
  | _ :: _, [], _, h, _ => by simp [Lib.compareBytes] at h
  | _ :: _, _ :: _, [], _, h => by simp [Lib.compareBytes] at h
  | a :: xs, b :: ys, c :: zs, h1, h2 => by
    unfold Lib.compareBytes at h1 h2 ⊢
    have ih := cmpB_trans xs ys zs
    simp only [UInt8.lt_iff_toNat_lt] at h1 h2 ⊢
    split at h1 <;> split at h2 <;> (repeat' split) <;> first | omega | (split at h1 <;> split at h2 <;> first | omega | (apply ih <;> omega)) | (split at h1 <;> omega) | (split at h2 <;> omega)
theorem cmpLab_def (a b : LabelD) : cmpLab a b = if cmpI a.service b.service = 0 then (if cmpI a.serial b.serial = 0 then cmpS a.dest b.dest else cmpI a.serial b.serial) else cmpI a.service b.service := by
  unfold cmpLab
  simp only [firstOf]
  by_cases h1 : cmpI a.service b.service = 0 <;> by_cases h2 : cmpI a.serial b.serial = 0 <;> by_cases h3 : cmpS a.dest b.dest = 0 <;> simp [h1, h2, h3]
theorem cmpS_anti (a b : ByteArray) : cmpS b a = - cmpS a b := cmpB_anti _ _
theorem cmpI_cases (a b : Int) : (a < b ∧ cmpI a b = -1) ∨ (a = b ∧ cmpI a b = 0) ∨ (b < a ∧ cmpI a b = 1) := by
  unfold cmpI
  by_cases h1 : a < b
  · exact .inl ⟨h1, if_pos h1⟩
  · by_cases h2 : b < a
    · exact .inr (.inr ⟨h2, by rw [if_neg h1, if_pos h2]⟩)
    · exact .inr (.inl ⟨by omega, by rw [if_neg h1, if_neg h2]⟩)
theorem cmpLab_anti (a b : LabelD) : cmpLab b a = - cmpLab a b := by
  rw [cmpLab_def, cmpLab_def, cmpS_anti a.dest b.dest]
  rcases cmpI_cases a.service b.service with ⟨h, e⟩ | ⟨h, e⟩ | ⟨h, e⟩ <;> rcases cmpI_cases b.service a.service with ⟨h', e'⟩ | ⟨h', e'⟩ | ⟨h', e'⟩ <;> rcases cmpI_cases a.serial b.serial with ⟨g, f⟩ | ⟨g, f⟩ | ⟨g, f⟩ <;> rcases cmpI_cases b.serial a.serial with ⟨g', f'⟩ | ⟨g', f'⟩ | ⟨g', f'⟩ <;> first | omega | simp [e, e', f, f']
theorem cmpLab_trans (a b c : LabelD) (h1 : cmpLab a b ≤ 0) (h2 : cmpLab b c ≤ 0) : cmpLab a c ≤ 0 := by
  have ht : cmpS a.dest b.dest ≤ 0 → cmpS b.dest c.dest ≤ 0 → cmpS a.dest c.dest ≤ 0 := cmpB_trans _ _ _
  rw [cmpLab_def] at *
  rcases cmpI_cases a.service b.service with ⟨p1, e1⟩ | ⟨p1, e1⟩ | ⟨p1, e1⟩ <;> rcases cmpI_cases b.service c.service with ⟨p2, e2⟩ | ⟨p2, e2⟩ | ⟨p2, e2⟩ <;> rcases cmpI_cases a.service c.service with ⟨p3, e3⟩ | ⟨p3, e3⟩ | ⟨p3, e3⟩ <;> simp only [e1, e2, e3] at h1 h2 ⊢ <;> first | omega | skip
  all_goals (rcases cmpI_cases a.serial b.serial with ⟨q1, f1⟩ | ⟨q1, f1⟩ | ⟨q1, f1⟩ <;> rcases cmpI_cases b.serial c.serial with ⟨q2, f2⟩ | ⟨q2, f2⟩ | ⟨q2, f2⟩ <;> rcases cmpI_cases a.serial c.serial with ⟨q3, f3⟩ | ⟨q3, f3⟩ | ⟨q3, f3⟩ <;> simp [f1, f2, f3] at h1 h2 ⊢ <;> first | omega | (apply ht <;> assumption))
end Go.Proofs.Ytogdmidldaeheaa
