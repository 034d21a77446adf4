/- What ParseTime answers: the program's and the reference's alike. No condition. -/
import Derived.Test.YtemlgfbfomkdaaaDoorClock
import Derived.Test.YtemlgfbfomkdaaaDoorSplit
import Derived.Test.YtemlgfbfomkdaaaDoorCutKit
import Derived.Lib.Hide
namespace Go.Proofs.YtemlgfbfomkdaaaDoor
open Go.RowKit Go.PlainAid
open Go.Lib (itoa decDigits decDigits_two)
set_option maxRecDepth 100000
set_option linter.unusedVariables false
def TPost (l : List UInt8) (w : World) (e : Ending) (w' : World) : Prop := ∃ (t : Int) (ok : Bool), e = .returned (.tuple #[.int .i64 t, .bool ok]) ∧ Hid (IsTime l t ok) ∧ Below w.heap.size w w'
theorem TPost.of {l : List UInt8} {w w' : World} {t : Int} {ok : Bool} (h : IsTime l t ok) (b : Below w.heap.size w w') : TPost l w (.returned (.tuple #[.int .i64 t, .bool ok])) w' := ⟨t, ok, rfl, h, b⟩
set_option maxHeartbeats 3200000 in
theorem parseTimeI (s : ByteArray) (w : World) (hs : s.size ≤ 16777216) (h : Errs w) (hm : MaxL w) : Calls Tryd.prog 7 #[.string s] w (TPost s.data.toList w) := by
  have hl := data_len s
  obtain ⟨z1, z2⟩ := lib_cut_len s.data.toList 32
  obtain ⟨a, ha⟩ : ∃ a : ByteArray, a = ⟨(Go.Lib.cut s.data.toList [32]).1.toArray⟩ := ⟨_, rfl⟩
  obtain ⟨b, hb⟩ : ∃ b : ByteArray, b = ⟨(Go.Lib.cut s.data.toList [32]).2.1.toArray⟩ := ⟨_, rfl⟩
  have da : a.data.toList = (Go.Lib.cut s.data.toList [32]).1 := by rw [ha]
  have db : b.data.toList = (Go.Lib.cut s.data.toList [32]).2.1 := by rw [hb]
  have sa : a.size ≤ 16777216 := by rw [← data_len, da]; omega
  have sb : b.size ≤ 16777216 := by rw [← data_len, db]; omega
  have CC := cut_any s w hm (by omega)
  rw [← ha, ← hb] at CC
  have DA := Lib.hid da; have DB := Lib.hid db
  clear da db ha hb z1 z2 hl
  go_enter Tryd.func7, Tryd.ntmps7
  go_wp2_with fail
  refine CC.mono ?_
  rintro e w1 ⟨rfl, b1⟩
  clear CC
  have h1 := h.keep b1
  go_wp2_with fail
  refine (parseI a _ (by omega) h1).mono ?_
  rintro e w2 ⟨d, okd, rfl, HD, d0, d1, b2⟩
  have B2 := chain b1 b2
  have h2 := h1.keep b2
  go_wp2_with fail
  refine (readClockI b _ (by unfold maxLen; omega) h2.1).mono ?_
  rintro e w3 ⟨m, rfl, HM, m0, m1, b3⟩
  have B3 := chain B2 b3
  have h3 := h2.keep b3
  cases q0 : s.toList.isEmpty
  · go_wp2_with fail
    refine (timeI (d * 1440 + m) _ (by unfold okI; omega) h3.1).mono ?_
    rintro e w4 ⟨r, rfl, Hr, hr, b4⟩
    have B4 := chain B3 b4
    clear hr
    have ne : s.data.toList ≠ [] := fun e => by rw [Lib.toList_data, e] at q0; cases q0
    have NE := Lib.hid ne; clear ne
    cases q : (r.toList == s.toList)
    · have hd := diff_list Hr.out q
      have HF := Lib.hid (time_no (DA.out ▸ HD.out) (DB.out ▸ HM.out) (.inr hd)); clear hd
      have q' : (r.toList != s.toList) = true := by simp [bne, q]
      go_wp2_with fail
      go_ret2
      exact TPost.of HF.out B4
    · have hd := same_list Hr.out q
      have HF := Lib.hid (time_yes NE.out hd); clear hd
      have q' : (r.toList != s.toList) = false := by simp [bne, q]
      go_wp2_with fail
      go_ret2
      exact TPost.of HF.out B4
  · have e0 : s.data.toList = [] := by rw [Lib.toList_data] at q0; exact List.isEmpty_iff.1 q0
    have HF := Lib.hid (time_no (DA.out ▸ HD.out) (DB.out ▸ HM.out) (.inl e0)); clear e0
    go_wp2_with fail
    go_ret2
    exact TPost.of HF.out B3
set_option maxHeartbeats 3200000 in
theorem parseTimeS (s : ByteArray) (w : World) (hs : s.size ≤ 16777216) (ht : Tabs w) : Calls Tryd.prog 6 #[.string s] w (TPost s.data.toList w) := by
  have hl := data_len s
  have hs' : s.data.toList.length ≤ 16777216 := by omega
  clear hl
  have CC : Calls Tryd.prog 17 #[.string s, .int .u8 32] w (SplitP 32 s.data.toList w) := splitS s 32 w hs
  go_enter Tryd.func6, Tryd.ntmps6
  go_wp2_with fail
  refine CC.mono ?_
  rintro e w1 ⟨v, xs, rfl, sl, HS, hx, b1⟩
  clear CC
  obtain ⟨A, c, rfl, hl1, hl2⟩ := sl.form
  unfold maxLen at hl2
  by_cases h2 : xs.length = 2
  · have h2' : ((xs.length : Int) != 2) = false := by simp; omega
    match xs, h2 with
    | [x, y], _ =>
      obtain ⟨A', c', e1, -, -, hh⟩ := sl
      injection e1 with e1 e2 e3
      subst e1 e3
      obtain ⟨b_, off, rfl, hb_, hc⟩ := hh (by simp)
      have x0 : w1.cell? ⟨b_, off, none⟩ = some (.string x) := by simpa using hc 0 x 0 _ rfl rfl
      have x1 : w1.cell? ⟨b_, off + 1, none⟩ = some (.string y) := by simpa using hc 1 y 0 _ rfl rfl
      have zx : x.size ≤ 16777216 := Nat.le_trans (hx x (by simp)) hs'
      have zy : y.size ≤ 16777216 := Nat.le_trans (hx y (by simp)) hs'
      clear hh hc hx e2
      have HS2 : Hid (IsSplit 32 s.data.toList [x.data.toList, y.data.toList]) := HS
      clear HS
      simp only [List.length_cons, List.length_nil] at hl1 h2' ⊢
      go_wp2_with fail
      refine (parseS x _ (by omega)).mono ?_
      rintro e w2 ⟨d, ok, rfl, HD, d0, d1, b2⟩
      have B2 := chain b1 b2
      have y1 := cell_keep b2 x1
      clear x0 x1
      go_wp2_with fail
      refine (minuteS y _ (by unfold maxLen; omega) ((ht.keep b1).keep b2)).mono ?_
      rintro e w3 ⟨m, rfl, HM, m0, m1, b3⟩
      have B3 := chain B2 b3
      cases ok
      · have HF := Lib.hid (time_two_no HS2.out HD.out HM.out (.inl rfl))
        go_wp2_with fail
        go_ret2
        exact TPost.of HF.out B3
      by_cases q1 : m < 0
      · have HF := Lib.hid (time_two_no HS2.out HD.out HM.out (.inr (.inl q1)))
        go_wp2_with fail
        go_ret2
        exact TPost.of HF.out B3
      by_cases q2 : 100000 < d
      · have HF := Lib.hid (time_two_no HS2.out HD.out HM.out (.inr (.inr (.inl q2))))
        go_wp2_with fail
        go_ret2
        exact TPost.of HF.out B3
      by_cases q3 : 100000 < d * 1440 + m
      · have HF := Lib.hid (time_two_no HS2.out HD.out HM.out (.inr (.inr (.inr q3))))
        go_wp2_with fail
        go_ret2
        exact TPost.of HF.out B3
      have HF := Lib.hid (time_two HS2.out HD.out HM.out (by omega) (by omega))
      go_wp2_with fail
      go_ret2
      exact TPost.of HF.out B3
  · have h2' : ((xs.length : Int) != 2) = true := by simp; omega
    have HF := Lib.hid (time_len HS.out (by simpa using h2))
    go_wp2_with fail
    go_ret2
    exact TPost.of HF.out b1
end Go.Proofs.YtemlgfbfomkdaaaDoor
