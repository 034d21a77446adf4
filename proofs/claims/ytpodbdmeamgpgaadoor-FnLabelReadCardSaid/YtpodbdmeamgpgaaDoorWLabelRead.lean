/- The law FnLabelRead walked: it returns true. No condition. -/
import Derived.Test.YtpodbdmeamgpgaaDoorLabFacts
import Derived.Test.YtpodbdmeamgpgaaDoorWExactParseLabel
import Derived.Test.YtpodbdmeamgpgaaDoorDrawLab
import Derived.Test.YtpodbdmeamgpgaaDoorAt
import Derived.Test.YtpodbdmeamgpgaaDoorSwap
import Derived.RegionTactic
namespace Go.Proofs.YtpodbdmeamgpgaaDoor
open Go.RowKit Go.PlainAid
open Go.Lib (itoa decDigits decDigits_two)
set_option maxRecDepth 100000
set_option linter.unusedVariables false
theorem read_mod {d : LabelD} {r q : ByteArray} (hl : labOk d = true) (hr : flabL d = r.data.toList) (hq : q.data.toList = if digOk r.data.toList then digF r.data.toList else []) : mod97 q.data.toList = 1 := by
  have ho : digOk r.data.toList = true := by rw [← hr]; exact flab_ok hl
  rw [ho] at hq
  rw [hq, if_pos rfl, ← hr]
  unfold mod97
  rw [digF_isdigs]
  have e : (digF (flabL d)).isEmpty = false := by
    cases h : digF (flabL d) with
    | nil => exact absurd h (digF_nonempty (flab_ne hl))
    | cons _ _ => rfl
  rw [e]
  exact flab_mod hl
set_option maxHeartbeats 8000000 in
theorem walk_LabelRead (v0 : Value) (w : World) (h0 : VBytes w v0) (ht : Errs w) : Calls Tryd.prog 11 #[v0] w fun e w' => e = .returned (.bool true) ∧ Below w.heap.size w w' := by
  obtain ⟨xs, hxs, h⟩ := h0
  obtain ⟨A, c, rfl, hle, hm⟩ := h.form
  have hbig := fun W (hW : SliceOf W 1 vB (.slice A xs.length c) xs) => big_any xs _ W hW
  have HB := Lib.hid hbig; clear hbig
  cases hb : decide (4096 < (xs.length : Int))
  · go_enter Tryd.func11, Tryd.ntmps11
    go_wp2_with fail
    refine (HB.out _ h).mono ?_
    rintro e w0 ⟨rfl, rfl⟩
    go_wp2_with fail
    refine (drawFormat_any xs _ _ h).mono ?_
    rintro e w1 ⟨a, b, s, rfl, oa, ob, os, b1⟩
    have hs3 : s.size ≤ maxLen := names_size os
    have hT1 := ht.keep b1
    have HS := h.keep b1 (Nat.le_refl _)
    go_wp2_with fail
    obtain ⟨V, hV⟩ : ∃ V, V = w1.alloc (.cells #[.int .i64 a, .int .i64 b, .string s] 38) := ⟨_, rfl⟩
    rw [← hV]
    have X : Box V w1.heap.size 38 #[.int .i64 a, .int .i64 b, .string s] := by rw [hV]; exact Box.new _ _ _
    have bV : Below w1.heap.size w1 V := by rw [hV]; go_grown
    clear hV
    have hTV := hT1.keep bV
    have BV := chain b1 bV
    refine (flabI a b s _ hs3 hTV.1).mono ?_
    rintro e w2 ⟨r, rfl, HR, hr, b2⟩
    have HRS := Lib.hid hr; clear hr
    have B2 := chain BV b2
    have hT2 := hTV.keep b2
    replace X := X.keep b2
    have hrz : r.size ≤ 15 := by
      rw [HRS.out]
      cases hl : labOk ⟨a, b, s⟩
      · rw [flabOf_no hl]; simp
      · rw [flabOf_yes hl, flab_len hl]; omega
    go_wp2_with fail
    refine (parseLabI r _ (by omega) hT2).mono ?_
    rintro e w3 ⟨⟨d1, d2, d3⟩, ok, rfl, HD, b3⟩
    simp only
    have B3 := chain B2 b3
    have hT3 := hT2.keep b3
    replace X := X.keep b3
    have n3 := X.lt
    have x0 : w3.cell? ⟨w1.heap.size, 0, none⟩ = some (.int .i64 a) := X.cell 0
    have x1 : w3.cell? ⟨w1.heap.size, 1, none⟩ = some (.int .i64 b) := X.cell 1
    have x2 : w3.cell? ⟨w1.heap.size, 2, none⟩ = some (.string s) := X.cell 2
    go_wp2_with fail
    obtain ⟨U, hU⟩ : ∃ U, U = w3.alloc (.cells #[.int .i64 d1, .int .i64 d2, .string d3] 38) := ⟨_, rfl⟩
    rw [← hU]
    have Y : Box U w3.heap.size 38 #[.int .i64 d1, .int .i64 d2, .string d3] := by rw [hU]; exact Box.new _ _ _
    replace X : Box U w1.heap.size 38 #[.int .i64 a, .int .i64 b, .string s] := by rw [hU]; exact X.alloc _
    have bU : Below w3.heap.size w3 U := by rw [hU]; go_grown
    clear hU x0 x1 x2
    have BU := chain B3 bU
    have hTU := hT3.keep bU
    refine (isLabelI a b s _ hs3).mono ?_
    rintro e w4 ⟨rfl, b4⟩
    have B4 := chain BU b4
    have hT4 := hTU.keep b4
    replace X := X.keep b4
    replace Y := Y.keep b4
    have x0 : w4.cell? ⟨w1.heap.size, 0, none⟩ = some (.int .i64 a) := X.cell 0
    have x1 : w4.cell? ⟨w1.heap.size, 1, none⟩ = some (.int .i64 b) := X.cell 1
    have x2 : w4.cell? ⟨w1.heap.size, 2, none⟩ = some (.string s) := X.cell 2
    cases hl : labB a b s
    · have he := emp_of (HR.out.trans (flabOf_no (d := ⟨a, b, s⟩) hl))
      have hk : ok = false := lab_nil (by have := HD.out; rw [HR.out, flabOf_no (d := ⟨a, b, s⟩) hl] at this; exact this)
      have hc := fun (W : World) (hW : Tabs W) => checkI a b s W hs3 hW
      rw [chkOf_no (d := ⟨a, b, s⟩) hl] at hc
      have HC := Lib.hid hc; clear hc
      have HLL := Lib.hid hl; clear hl
      cases ok
      · go_wp2_with fail
        refine (HC.out _ hT4.1).mono ?_
        rintro e w5 ⟨rfl, b5⟩
        go_wp2_with fail
        go_ret
        exact ⟨rfl, chain B4 b5⟩
      · cases hk
    · have hr15 : r.size = 15 := by rw [HRS.out, flabOf_yes (d := ⟨a, b, s⟩) hl, flab_len (d := ⟨a, b, s⟩) hl]
      have e15 : ((r.size : Int) == 15) = true := by rw [hr15]; rfl
      have HL : Hid (flabL ⟨a, b, s⟩ = r.data.toList) := Lib.hid ((flabOf_yes (d := ⟨a, b, s⟩) hl).symm.trans HR.out.symm)
      obtain ⟨hd, hk⟩ := lab_is (d := ⟨a, b, s⟩) hl HL.out HD.out
      injection hd with q1 q2 q3
      have f1 : (d1 == a) = true := by simpa using q1
      have f2 : (d2 == b) = true := by simpa using q2
      have f3 : (d3.toList == s.toList) = true := by rw [q3]; simp
      clear q1 q2 q3 hr15
      have HLL := Lib.hid hl; clear hl
      cases ok
      · cases hk
      · clear hk
        go_wp2_with fail
        refine (digitsI r _ (by omega) hT4.1).mono ?_
        rintro e w5 ⟨q, rfl, Hq, b5⟩
        have hm := read_mod (d := ⟨a, b, s⟩) HLL.out HL.out Hq.out
        have hqz : q.size ≤ 45 := by
          have h1 := Hq.out
          have h2 := data_len q
          rw [h1] at h2
          have h3 := digF_len r.data.toList
          rw [data_len] at h3
          split at h2
          · omega
          · simp at h2; omega
        have mq := fun W => mod97I q W (by unfold maxLen; omega)
        rw [hm] at mq
        have MQ := Lib.hid mq; clear mq hm
        replace X := X.keep b5
        replace Y := Y.keep b5
        have B5 := chain B4 b5
        clear x0 x1 x2
        have x0 : w5.cell? ⟨w1.heap.size, 0, none⟩ = some (.int .i64 a) := X.cell 0
        have x1 : w5.cell? ⟨w1.heap.size, 1, none⟩ = some (.int .i64 b) := X.cell 1
        have x2 : w5.cell? ⟨w1.heap.size, 2, none⟩ = some (.string s) := X.cell 2
        have y0 : w5.cell? ⟨w3.heap.size, 0, none⟩ = some (.int .i64 d1) := Y.cell 0
        have y1 : w5.cell? ⟨w3.heap.size, 1, none⟩ = some (.int .i64 d2) := Y.cell 1
        have y2 : w5.cell? ⟨w3.heap.size, 2, none⟩ = some (.string d3) := Y.cell 2
        go_wp2_with fail
        refine (MQ.out _).mono ?_
        rintro e w6 ⟨rfl, rfl⟩
        go_wp2_with fail
        go_ret
        exact ⟨rfl, B5⟩
  · go_enter Tryd.func11, Tryd.ntmps11
    go_wp2_with fail
    refine (HB.out _ h).mono ?_
    rintro e w0 ⟨rfl, rfl⟩
    go_wp2_with fail
    go_ret
    exact ⟨rfl, Below.refl _ _⟩
end Go.Proofs.YtpodbdmeamgpgaaDoor
