/- What the reference's draws of zones answer: lists of zones. No condition. -/
import Derived.Test.YteolobffmldfhaaLabDraw
import Derived.Test.YteolobffmldfhaaRecZone
namespace Go.Proofs.Yteolobffmldfhaa
open Go.RowKit Go.PlainAid
set_option maxRecDepth 100000
set_option linter.unusedVariables false
/-- A row that the text writes out. -/
theorem own_lit {w : World} {base g : Nat} {xs : List ZoneD} {cs : Array Value} (hg : w.heap[g]? = some (.cells cs 91)) (hb : base ≤ g) (hc : cs.toList = xs.flatMap ZoneD.vals) (hl : xs.length ≤ 100) : Own w base 91 2 ZoneD.vals (.slice (some ⟨g, 0, none⟩) xs.length xs.length) xs := by
  have hs : cs.size = xs.length * 2 := by rw [← Array.length_toList, hc, flatMap_len Zone_len]
  refine ⟨by rw [flatMap_len Zone_len], .inr ⟨g, xs.length, cs, rfl, hb, hg, Nat.le_refl _, by unfold maxLen; omega, by rw [hs], by rw [hc]; exact List.take_of_length_le (by rw [flatMap_len Zone_len]; exact Nat.le_refl _)⟩⟩
theorem alloc_at {w : World} {o : Obj} {k : Nat} (h : k = w.heap.size) : (w.alloc o).heap[k]? = some o := by subst h; show (w.heap.push _)[w.heap.size]? = _; simp
set_option maxHeartbeats 4000000 in
theorem zones_any (C : Nat) (w : World) (hc : Cur C w) : Calls Try.prog 69 #[.pointer (some ⟨C, 0, none⟩)] w fun e w' => ∃ (v : Value) (xs : List ZoneD), e = .returned v ∧ Own w' w.heap.size 91 2 ZoneD.vals v xs ∧ xs.length ≤ 3 ∧ (∀ x ∈ xs, x.ok) ∧ Cur C w' ∧ Saves C w w' := by
  have hlt := hc.lt
  go_enter Try.func69, Try.ntmps69
  go_wp2_with fail
  obtain ⟨W, hW⟩ : ∃ W, W = (((((w.alloc (.cells #[.string ⟨#[65, 77, 83]⟩, .string ⟨#[67, 68, 71]⟩, .string ⟨#[68, 85, 66]⟩, .string ⟨#[71, 79, 84]⟩] 91)).alloc (.cells #[.string ⟨#[65, 65, 65]⟩, .string ⟨#[90, 90, 90]⟩] 91)).alloc (.cells #[.string ⟨#[65, 77, 83]⟩, .string ⟨#[65, 77, 83]⟩, .string ⟨#[66, 82, 85]⟩, .string ⟨#[69, 68, 73]⟩, .string ⟨#[70, 82, 65]⟩, .string ⟨#[70, 82, 65]⟩] 91)).alloc (.cells #[] 91)).alloc (.cells #[.slice (some ⟨w.heap.size, 0, none⟩) 2 2, .slice (some ⟨w.heap.size + 1, 0, none⟩) 1 1, .slice (some ⟨w.heap.size + 2, 0, none⟩) 3 3, .slice (some ⟨w.heap.size + 3, 0, none⟩) 0 0] 47)) := ⟨_, rfl⟩
  rw [← hW]
  have hz : W.heap.size = w.heap.size + 5 := by rw [hW]; simp
  have hB : Below w.heap.size w W := by rw [hW]; go_grown
  have o0 : W.cell? ⟨w.heap.size + 4, 0, none⟩ = some (.slice (some ⟨w.heap.size, 0, none⟩) 2 2) := by rw [hW]; simp [go_sem]
  have h0 : W.heap[w.heap.size]? = some (.cells #[.string ⟨#[65, 77, 83]⟩, .string ⟨#[67, 68, 71]⟩, .string ⟨#[68, 85, 66]⟩, .string ⟨#[71, 79, 84]⟩] 91) := by rw [hW]; rw [Below.heap_alloc _ _ _ (by simp <;> omega), Below.heap_alloc _ _ _ (by simp <;> omega), Below.heap_alloc _ _ _ (by simp <;> omega), Below.heap_alloc _ _ _ (by simp <;> omega)]; exact alloc_at (by simp)
  have o1 : W.cell? ⟨w.heap.size + 4, 1, none⟩ = some (.slice (some ⟨w.heap.size + 1, 0, none⟩) 1 1) := by rw [hW]; simp [go_sem]
  have h1 : W.heap[w.heap.size + 1]? = some (.cells #[.string ⟨#[65, 65, 65]⟩, .string ⟨#[90, 90, 90]⟩] 91) := by rw [hW]; rw [Below.heap_alloc _ _ _ (by simp <;> omega), Below.heap_alloc _ _ _ (by simp <;> omega), Below.heap_alloc _ _ _ (by simp <;> omega)]; exact alloc_at (by simp)
  have o2 : W.cell? ⟨w.heap.size + 4, 2, none⟩ = some (.slice (some ⟨w.heap.size + 2, 0, none⟩) 3 3) := by rw [hW]; simp [go_sem]
  have h2 : W.heap[w.heap.size + 2]? = some (.cells #[.string ⟨#[65, 77, 83]⟩, .string ⟨#[65, 77, 83]⟩, .string ⟨#[66, 82, 85]⟩, .string ⟨#[69, 68, 73]⟩, .string ⟨#[70, 82, 65]⟩, .string ⟨#[70, 82, 65]⟩] 91) := by rw [hW]; rw [Below.heap_alloc _ _ _ (by simp <;> omega), Below.heap_alloc _ _ _ (by simp <;> omega)]; exact alloc_at (by simp)
  have o3 : W.cell? ⟨w.heap.size + 4, 3, none⟩ = some (.slice (some ⟨w.heap.size + 3, 0, none⟩) 0 0) := by rw [hW]; simp [go_sem]
  have h3 : W.heap[w.heap.size + 3]? = some (.cells #[] 91) := by rw [hW]; rw [Below.heap_alloc _ _ _ (by simp <;> omega)]; exact alloc_at (by simp)
  clear hW
  refine (below_any C 4 _ (hc.keep hB) (by unfold okI; omega)).mono ?_
  rintro e w1 ⟨x, rfl, x0, -, x4, c1, s1⟩
  have x5 := x4 (by omega)
  have S := (Saves.of_below (C := C) hB).trans s1
  have p0 := s1.at' o0 (by show ¬ (w.heap.size + 4) = C; omega)
  have q0 := (s1.block (w.heap.size) (by omega) (by omega)).trans h0
  have p1 := s1.at' o1 (by show ¬ (w.heap.size + 4) = C; omega)
  have q1 := (s1.block (w.heap.size + 1) (by omega) (by omega)).trans h1
  have p2 := s1.at' o2 (by show ¬ (w.heap.size + 4) = C; omega)
  have q2 := (s1.block (w.heap.size + 2) (by omega) (by omega)).trans h2
  have p3 := s1.at' o3 (by show ¬ (w.heap.size + 4) = C; omega)
  have q3 := (s1.block (w.heap.size + 3) (by omega) (by omega)).trans h3
  clear o0 h0 o1 h1 o2 h2 o3 h3 x4
  rcases (show x = 0 ∨ x = 1 ∨ x = 2 ∨ x = 3 by omega) with rfl | rfl | rfl | rfl
  · go_wp2_with fail
    go_ret
    exact ⟨_, ([⟨⟨#[65, 77, 83]⟩, ⟨#[67, 68, 71]⟩⟩, ⟨⟨#[68, 85, 66]⟩, ⟨#[71, 79, 84]⟩⟩] : List ZoneD), rfl, own_lit q0 (by omega) rfl (by show _ ≤ 100; decide), by decide, by unfold ZoneD.ok maxLen; decide, c1, S⟩
  · go_wp2_with fail
    go_ret
    exact ⟨_, ([⟨⟨#[65, 65, 65]⟩, ⟨#[90, 90, 90]⟩⟩] : List ZoneD), rfl, own_lit q1 (by omega) rfl (by show _ ≤ 100; decide), by decide, by unfold ZoneD.ok maxLen; decide, c1, S⟩
  · go_wp2_with fail
    go_ret
    exact ⟨_, ([⟨⟨#[65, 77, 83]⟩, ⟨#[65, 77, 83]⟩⟩, ⟨⟨#[66, 82, 85]⟩, ⟨#[69, 68, 73]⟩⟩, ⟨⟨#[70, 82, 65]⟩, ⟨#[70, 82, 65]⟩⟩] : List ZoneD), rfl, own_lit q2 (by omega) rfl (by show _ ≤ 100; decide), by decide, by unfold ZoneD.ok maxLen; decide, c1, S⟩
  · go_wp2_with fail
    go_ret
    exact ⟨_, ([] : List ZoneD), rfl, own_lit q3 (by omega) rfl (by show _ ≤ 100; decide), by decide, by unfold ZoneD.ok maxLen; decide, c1, S⟩
theorem Own.saved {α : Type} {w w' : World} {base size C : Nat} {e : TypeId} {vals : α → List Value} {v : Value} {xs : List α} (h : Own w base e size vals v xs) (hC : C < base) (s : Saves C w w') : Own w' base e size vals v xs := by
  refine ⟨h.1, ?_⟩
  rcases h.2 with h0 | ⟨g, cap, cur, hv, hbg, hg, r⟩
  · exact .inl h0
  · exact .inr ⟨g, cap, cur, hv, hbg, by rw [s.block g (Array.getElem?_eq_some_iff.1 hg).1 (by omega)]; exact hg, r⟩
theorem own_zone {w : World} {base : Nat} {v : Value} {xs : List ZoneD} {a b : ByteArray} (h : w.ownsRow base 91 2 v (xs.length + 1) (xs.flatMap ZoneD.vals ++ [.string a, .string b])) : Own w base 91 2 ZoneD.vals v (xs ++ [⟨a, b⟩]) := by
  unfold Own
  rw [List.flatMap_append, List.length_append]
  exact h
theorem Own.grown' {α : Type} {w w' : World} {B size : Nat} {e : TypeId} {vals : α → List Value} {v : Value} {xs : List α} (h : Own w B e size vals v xs) (o : Obj) (hg : (w.alloc o).grownBy w' v.ownBlock) (hB : B ≤ w.heap.size) : Below B w w' :=
  ((Below.refl B w).alloc hB o).grown hg (by simp; omega) (fun g q => (World.ownsRow.lt h g q).1)
theorem info_Zone3 : (Try.prog.info? 91).map (fun i => (i.zero, i.size, i.bytes)) = some (some (.agg #[.string ⟨#[]⟩, .string ⟨#[]⟩]), 2, 32) := by kernel_rfl
theorem convz (w : World) (T : TypeId) (c : Int) (k : Nat) (hk : k = w.heap.size) : (convert 28 9 (.slice (some ⟨k, 0, none⟩) 1 1)).run Try.prog (w.alloc (.cells #[.int .u8 c] T)) = .ok (.string ⟨#[UInt8.ofNat c.toNat]⟩) (w.alloc (.cells #[.int .u8 c] T)) := by
  subst hk
  rw [run_convert_bytes_string _ _ _ 5 _ _ _ Try.underlying28 Try.underlying5 Try.underlying9,
    run_bytesToString _ _ _ _ [c] (by simp [go_sem, loadCells])]
  rfl
def zonA (n : Nat) : ByteArray := ⟨#[90]⟩ ++ ⟨#[65 + UInt8.ofNat n]⟩ ++ ⟨#[65]⟩
def zonB (n : Nat) : ByteArray := ⟨#[90]⟩ ++ ⟨#[65 + UInt8.ofNat n]⟩ ++ ⟨#[66]⟩
theorem Own.take {α : Type} {w : World} {base size : Nat} {e : TypeId} {vals : α → List Value} (hv : ∀ x, (vals x).length = size) {A : Option Addr} {m c n : Nat} {xs : List α} (h : Own w base e size vals (.slice A m c) xs) (hn : n ≤ xs.length) (h0 : 0 < n) : Own w base e size vals (.slice A n c) (xs.take n) := by
  rcases h.2 with ⟨hv0, h1⟩ | ⟨g, cap, cur, hv1, hbg, hg, hnc, hcm, hcs, htake⟩
  · omega
  · injection hv1 with q1 q2 q3
    subst q1; subst q3
    have hl : (xs.take n).length = n := by rw [List.length_take]; omega
    refine ⟨by rw [flatMap_len hv, hl], .inr ⟨g, c, cur, by rw [hl], hbg, hg, by rw [hl]; omega, hcm, hcs, ?_⟩⟩
    rw [hl]
    have e1 : cur.toList.take (n * size) = (xs.flatMap vals).take (n * size) := by
      rw [← htake, List.take_take, Nat.min_eq_left (Nat.mul_le_mul_right _ hn)]
    rw [e1]
    have e2 : xs.flatMap vals = (xs.take n).flatMap vals ++ (xs.drop n).flatMap vals := by rw [← List.flatMap_append, List.take_append_drop]
    rw [e2, List.take_append_of_le_length (by rw [flatMap_len hv, hl]; exact Nat.le_refl _), List.take_of_length_le (by rw [flatMap_len hv, hl]; exact Nat.le_refl _)]
def lenOf : Value → Nat
  | .slice _ n _ => n
  | _ => 0
def endNames : List ByteArray := [⟨#[71, 79, 84]⟩, ⟨#[70, 82, 65]⟩, ⟨#[90, 90, 90]⟩, ⟨#[90]⟩]
set_option maxHeartbeats 4000000 in
theorem anyZones_any (C : Nat) (w : World) (hc : Cur C w) : Calls Try.prog 71 #[.pointer (some ⟨C, 0, none⟩)] w fun e w' => ∃ (v : Value) (xs : List ZoneD), e = .returned v ∧ Own w' w.heap.size 91 2 ZoneD.vals v xs ∧ xs.length ≤ 9 ∧ (∀ x ∈ xs, x.ok) ∧ Cur C w' ∧ Saves C w w' := by
  have hlt := hc.lt
  obtain ⟨i0, hi, hz0, hz1, hz2⟩ := info_parts info_Zone3
  go_enter Try.func71, Try.ntmps71
  go_wp2_with fail
  refine (zones_any C _ hc).mono ?_
  rintro e w1 ⟨v, xs, rfl, o1, l1, k1, c1, s1⟩
  go_wp2_with fail
  refine (below_any C 5 _ c1 (by unfold okI; omega)).mono ?_
  rintro e w2 ⟨x, rfl, x0, -, x4, c2, s2⟩
  have x5 := x4 (by omega)
  have S := s1.trans s2
  have o2 := o1.saved hlt s2
  clear o1 s1 s2 c1 x4
  by_cases h0 : x = 0
  · subst h0
    have hlt2 := c2.lt
    have z2 := S.size
    have hS := lit_slice (f := Value.string) (vals := vS) (fun _ => rfl) endNames 9 w2 #[.string ⟨#[71, 79, 84]⟩, .string ⟨#[70, 82, 65]⟩, .string ⟨#[90, 90, 90]⟩, .string ⟨#[90]⟩] rfl (by decide)
    have b0 : Below w2.heap.size w2 (w2.alloc (.cells #[.string ⟨#[71, 79, 84]⟩, .string ⟨#[70, 82, 65]⟩, .string ⟨#[90, 90, 90]⟩, .string ⟨#[90]⟩] 9)) := by go_grown
    have o2b := o2.keep b0 (Nat.le_refl _)
    go_wp2_with fail
    refine (str_any C endNames _ _ (c2.keep b0) (by decide) hS (fun b off n c hv => by injection hv with e1 e2 e3; injection e1 with e1; injection e1 with e1 e2; omega)).mono ?_
    rintro e w3 ⟨y, rfl, hy, c3, s3⟩
    have o3 := o2b.saved hlt s3
    have S3 := S.trans ((Saves.of_below b0).trans s3)
    clear hS b0 o2 o2b c2 s3
    go_wp2_with (at_builtin; refine wpList_append_own _ rfl (.tmp 10) (.tmp 15) 47 rfl w.heap.size 91 i0 (.agg #[.string ⟨#[]⟩, .string ⟨#[]⟩]) 2 32 Try.underlying47 hi hz0 hz1 hz2 rfl (by decide) _ _ _ rfl (World.ownsRow.alloc o3 _) _ 1 1 [.string ⟨#[71, 79, 84]⟩, .string y] rfl rfl ?c1 ?c2 ?c3 ?c4 ?c5 ?_)
    case c1 =>
      intro j u hj
      match j, hj with
      | 0, hj => simp at hj; subst hj; simp [go_sem, Addr.add]
      | 1, hj => simp at hj; subst hj; simp [go_sem, Addr.add]
    case c2 => intro u hu; simp at hu; rcases hu with rfl | rfl <;> rfl
    case c3 => unfold maxLen; omega
    case c4 => omega
    case c5 => have := S3.size; simp; omega
    intro v' w7 hown' hgrow _
    have B7 := o3.grown' _ hgrow S3.size
    have o7 := own_zone hown'
    have c7 := c3.keepB B7 hlt
    have S7 := S3.belowR B7 (Nat.le_refl _)
    have ky : ∀ z ∈ xs ++ [(⟨⟨#[71, 79, 84]⟩, y⟩ : ZoneD)], z.ok := by
      intro z hz
      rcases List.mem_append.1 hz with q | q
      · exact k1 z q
      · rw [List.mem_singleton.1 q]
        have : ∀ t ∈ endNames, t.size ≤ maxLen := by unfold endNames maxLen; decide
        exact ⟨by show (⟨#[71, 79, 84]⟩ : ByteArray).size ≤ maxLen; unfold maxLen; decide, this y hy⟩
    clear hgrow hown' o3 c3
    go_wp2_with fail
    go_ret
    exact ⟨_, _, rfl, o7, by rw [List.length_append]; show _ + 1 ≤ 9; omega, ky, c7, S7⟩
  by_cases h1 : x = 1
  · subst h1
    go_wp2_with fail
    go_loopw [3] (fun lv wr => ∃ ys : List ZoneD, ys.length ≤ 9 ∧ (∀ z ∈ ys, z.ok) ∧ Own wr w.heap.size 91 2 ZoneD.vals lv ys ∧ Cur C wr ∧ Saves C w wr) (fun lv _ => 9 - lenOf lv)
    case atStart => exact ⟨xs, by omega, k1, o2, c2, S⟩
    case round =>
      obtain ⟨ys, hy9, hyk, ho, hc3, hS3⟩ := hrel
      obtain ⟨A', c', rfl, hl', hm'⟩ := ho.form
      by_cases hlt9 : ys.length < 9
      · have g0 : (ys.length : Int) < 9 := by omega
        have hcv1 := fun T c => convz wr T c _ rfl
        have hcv2 := fun o T c => convz (wr.alloc o) T c (wr.heap.size + 1) (by simp)
        go_wp2_with (at_builtin; refine wpList_append_own _ rfl (.tmp 22) (.tmp 40) 47 rfl w.heap.size 91 i0 (.agg #[.string ⟨#[]⟩, .string ⟨#[]⟩]) 2 32 Try.underlying47 hi hz0 hz1 hz2 rfl (by decide) _ _ _ rfl (World.ownsRow.alloc (World.ownsRow.alloc (World.ownsRow.alloc ho _) _) _) _ 1 1 [.string (zonA ys.length), .string (zonB ys.length)] rfl rfl ?c1 ?c2 ?c3 ?c4 ?c5 ?_)
        case c1 =>
          intro j u hj
          match j, hj with
          | 0, hj => simp at hj; subst hj; unfold zonA; simp [go_sem, Addr.add]
          | 1, hj => simp at hj; subst hj; unfold zonB; simp [go_sem, Addr.add]
        case c2 => intro u hu; simp at hu; rcases hu with rfl | rfl <;> rfl
        case c3 => unfold maxLen; omega
        case c4 => omega
        case c5 => have := hS3.size; simp; omega
        intro v' w7 hown' hgrow _
        have z3 := hS3.size
        have B7 : Below w.heap.size wr w7 := ((((Below.refl w.heap.size wr).alloc z3 _).alloc (by simp; omega) _).alloc (by simp; omega) _).grown hgrow (by simp; omega) (fun g q => (World.ownsRow.lt ho g q).1)
        have o7 := own_zone hown'
        have c7 := hc3.keepB B7 hlt
        have S7 := hS3.belowR B7 (Nat.le_refl _)
        have ky : ∀ z ∈ ys ++ [(⟨zonA ys.length, zonB ys.length⟩ : ZoneD)], z.ok := by
          intro z hz
          rcases List.mem_append.1 hz with q | q
          · exact hyk z q
          · rw [List.mem_singleton.1 q]; exact ⟨by show 3 ≤ maxLen; unfold maxLen; omega, by show 3 ≤ maxLen; unfold maxLen; omega⟩
        clear hgrow hown' ho hc3 hcv1 hcv2
        obtain ⟨A2, c2', rfl, -, -⟩ := o7.form
        go_wp2_with fail
        go_roundw
        case rel => exact ⟨_, by rw [List.length_append]; show _ + 1 ≤ 9; omega, ky, o7, c7, S7⟩
        case measure => show 9 - (ys ++ [_]).length < 9 - ys.length; rw [List.length_append]; show 9 - (_ + 1) < _; omega
      · have h9 : ys.length = 9 := by omega
        have n0 : ¬ (ys.length : Int) < 9 := by omega
        have hltr := hc3.lt
        have hS := lit_slice (f := Value.int .i64) (vals := vI) (fun _ => rfl) [8, 9] 3 wr #[.int .i64 8, .int .i64 9] rfl (by decide)
        have b0 : Below wr.heap.size wr (wr.alloc (.cells #[.int .i64 8, .int .i64 9] 3)) := by go_grown
        have o4 := ho.keep b0 (Nat.le_refl _)
        have z3 := hS3.size
        go_wp2_with fail
        refine (int_any C [8, 9] _ _ (hc3.keep b0) (by unfold okI; decide) (by decide) hS (fun b off n c hv => by injection hv with e1 e2 e3; injection e1 with e1; injection e1 with e1 e2; omega)).mono ?_
        rintro e w4 ⟨y, rfl, hy, c4, s4⟩
        have o5 := o4.saved hlt s4
        have S4 := hS3.trans ((Saves.of_below b0).trans s4)
        obtain ⟨n, rfl, hn0, hn9⟩ : ∃ n : Nat, y = (n : Int) ∧ 0 < n ∧ n ≤ 9 := by
          simp at hy
          rcases hy with rfl | rfl
          · exact ⟨8, rfl, by omega, by omega⟩
          · exact ⟨9, rfl, by omega, by omega⟩
        have o6 := o5.take Zone_len (n := n) (by omega) hn0
        have m0 : (0 : Int) ≤ (n : Int) := by omega
        have m1 : (n : Int) ≤ (c' : Int) := by omega
        clear hS b0 o4 hy ho
        go_wp2_with fail
        go_ret
        exact ⟨_, _, rfl, o6, by rw [List.length_take]; omega, fun z hz => hyk z (List.mem_of_mem_take hz), c4, S4⟩
  have e0 : (x == 0) = false := by simpa using h0
  have e1 : (x == 1) = false := by simpa using h1
  go_wp2_with fail
  go_ret
  exact ⟨_, xs, rfl, o2, by omega, k1, c2, S⟩
end Go.Proofs.Yteolobffmldfhaa
