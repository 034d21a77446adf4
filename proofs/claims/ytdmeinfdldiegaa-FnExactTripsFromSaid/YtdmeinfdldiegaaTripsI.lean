/- What the program's TripsFrom answers. No condition. -/
import Derived.Test.YtdmeinfdldiegaaTripStab
import Derived.Test.YtdmeinfdldiegaaInsKit
import Derived.Maps.AppendAt
namespace Go.Proofs.Ytdmeinfdldiegaa
open Go.RowKit Go.PlainAid Go.Shelf
set_option maxRecDepth 100000
set_option linter.unusedVariables false
/-- What both answer. -/
def TripsAre (legs : List LegD) (off : List Int) (ch : Int) (p : ByteArray) (u v : Int) (L : List TripD) : Prop := (netB legs off ch = true → IsTrips legs off p u v L) ∧ (netB legs off ch = false → L = [])
theorem TripsAre.unique {legs : List LegD} {off : List Int} {ch : Int} {p : ByteArray} {u v : Int} {L L' : List TripD} (h : TripsAre legs off ch p u v L) (h' : TripsAre legs off ch p u v L') : L = L' := by
  cases hn : netB legs off ch
  · rw [h.2 hn, h'.2 hn]
  · exact (h.1 hn).unique (h'.1 hn)
def TrP (legs : List LegD) (off : List Int) (ch : Int) (p : ByteArray) (u v : Int) (w : World) (e : Ending) (w' : World) : Prop := ∃ (vv : Value) (L : List TripD), e = .returned vv ∧ Own w' w.heap.size 45 2 TripD.vals vv L ∧ Hid (TripsAre legs off ch p u v L) ∧ L.length ≤ 1220 ∧ Below w.heap.size w w'
/-- The same, and that it is no nil slice. -/
def TrPN (legs : List LegD) (off : List Int) (ch : Int) (p : ByteArray) (u v : Int) (w : World) (e : Ending) (w' : World) : Prop := ∃ (vv : Value) (L : List TripD), e = .returned vv ∧ Own w' w.heap.size 45 2 TripD.vals vv L ∧ Hid (TripsAre legs off ch p u v L) ∧ L.length ≤ 1220 ∧ Below w.heap.size w w' ∧ vv ≠ .slice none 0 0
/-- The variable, and the row that it names. -/
structure TInv (W0 : World) (ob : Nat) (L : List TripD) (w : World) (g c : Nat) : Prop where
  obc : w.cell? ⟨ob, 0, none⟩ = some (.slice (some ⟨g, 0, none⟩) L.length c)
  fz : w.frozen? ⟨ob, 0, none⟩ = false
  own : Own w W0.heap.size 45 2 TripD.vals (.slice (some ⟨g, 0, none⟩) L.length c) L
  ne : ob ≠ g
  below : Below W0.heap.size W0 w
theorem TInv.keep {W0 w w' : World} {ob g c : Nat} {L : List TripD} (h : TInv W0 ob L w g c) (hb : Below w.heap.size w w') : TInv W0 ob L w' g c :=
  ⟨cell_keep hb h.obc, (hb.frozen (p := ⟨ob, 0, none⟩) (cell_lt h.obc)).trans h.fz, h.own.keep hb (Nat.le_refl _), h.ne, chain h.below hb⟩
theorem TInv.put {W0 w w7 : World} {ob g c : Nat} {L : List TripD} {t : TripD} {v' : Value} (hob : W0.heap.size ≤ ob) (h : TInv W0 ob L w g c) (ho : w7.ownsRow W0.heap.size 45 2 v' (L.length + 1) (L.flatMap TripD.vals ++ t.vals)) (hg : w.grownBy w7 (Value.ownBlock (.slice (some ⟨g, 0, none⟩) L.length c)))
    (hn : v' ≠ .slice none 0 0) (hw : v'.ownBlock = Value.ownBlock (.slice (some ⟨g, 0, none⟩) L.length c) ∨ v'.ownBlock = some w.heap.size) :
    ∃ (L9 : List TripD) (g' c' : Nat), v' = .slice (some ⟨g', 0, none⟩) L9.length c' ∧ Hid (L9 = L ++ [t]) ∧ w7.cell? ⟨ob, 0, none⟩ = some (.slice (some ⟨g, 0, none⟩) L.length c) ∧ w7.frozen? ⟨ob, 0, none⟩ = false ∧ TInv W0 ob L9 (w7.setCell ⟨ob, 0, none⟩ (.slice (some ⟨g', 0, none⟩) L9.length c')) g' c' := by
  obtain ⟨L9, hL9⟩ : ∃ L9, L9 = L ++ [t] := ⟨_, rfl⟩
  have ho2 : Own w7 W0.heap.size 45 2 TripD.vals v' L9 := by
    unfold Own; rw [hL9, List.flatMap_append, List.length_append]; simpa using ho
  have hlt := cell_lt h.obc
  simp only at hlt
  have hrow : Value.ownBlock (.slice (some ⟨g, 0, none⟩) L.length c) = some g := rfl
  rw [hrow] at hg hw
  have hc7 : w7.cell? ⟨ob, 0, none⟩ = some (.slice (some ⟨g, 0, none⟩) L.length c) := gr_cell hg h.obc h.ne
  have hf7 : w7.frozen? ⟨ob, 0, none⟩ = false := (World.frozen?_of_block (w := w) (a := ⟨ob, 0, none⟩) (hg.block ob hlt (by intro e; injection e with e; exact h.ne e))).trans h.fz
  obtain ⟨g', c', rfl, h1, h2, h3, h4⟩ := ho2.some1 hn
  have hgne : ob ≠ g' := by
    have e1 : Value.ownBlock (.slice (some ⟨g', 0, none⟩) L9.length c') = some g' := rfl
    rw [e1] at hw
    rcases hw with e | e <;> injection e with e
    · rw [e]; exact h.ne
    · rw [e]; exact Nat.ne_of_lt hlt
  have hgrow : w7.grownBy (w7.setCell ⟨ob, 0, none⟩ (.slice (some ⟨g', 0, none⟩) L9.length c')) (some ob) := ⟨rfl, rfl, rfl, by simp, fun k _ hk => heap_setCell_other w7 ⟨ob, 0, none⟩ k _ (fun e => hk (by simp [e]))⟩
  have hrow0 := World.ownsRow.lt h.own g rfl
  refine ⟨L9, g', c', rfl, Lib.hid hL9, hc7, hf7, ⟨?_, ?_, ?_, hgne, ?_⟩⟩
  · exact World.cell?_setCell_same' _ _ _ (by rw [hc7]; rfl)
  · rw [World.frozen?_setCell]; exact hf7
  · exact World.ownsRow.kept ho2 hgrow (.inr (by intro e; injection e with e; exact hgne e.symm))
  · exact (h.below.grown hg h.below.size (fun k hk => by injection hk with e; rw [← e]; exact hrow0.1)).setCell hob _
theorem txt_yes {a b : ByteArray} (h : (a.toList == b.toList) = true) : a = b := by
  have := eq_of_beq h
  rw [Lib.toList_data, Lib.toList_data] at this
  obtain ⟨⟨l⟩⟩ := a; obtain ⟨⟨m⟩⟩ := b
  simp at this; rw [this]
theorem txt_no {a b : ByteArray} (h : (a.toList == b.toList) = false) : a ≠ b := fun e => by subst e; simp at h
theorem good_iff {legs : List LegD} {off : List Int} {p : ByteArray} {u v : Int} {i d : Nat} {x : LegD} (hx : legs[i]? = some x) : GoodT legs off p u v ⟨i, d⟩ ↔ x.src = p ∧ runsB legs off i d = true ∧ u ≤ startT legs i d ∧ startT legs i d < v := by
  constructor
  · rintro ⟨⟨y, h1, h2⟩, h3, h4, h5⟩
    simp only [Int.toNat_natCast] at h1
    rw [hx] at h1; injection h1 with h1; subst h1
    exact ⟨h2, h3, h4, h5⟩
  · rintro ⟨h1, h2, h3, h4⟩
    exact ⟨⟨x, by simp only [Int.toNat_natCast]; exact hx, h1⟩, h2, h3, h4⟩
theorem info_tripT : (Try.prog.info? 45).map (fun i => (i.zero, i.size, i.bytes)) = some (some (.agg #[.int .i64 0, .int .i64 0]), 2, 16) := by kernel_rfl
set_option maxHeartbeats 6400000 in
theorem tripsIN (legs : List LegD) (off : List Int) (ch : Int) (p : ByteArray) (u v : Int) (l o : Value) (w : World) (hok : ∀ x ∈ legs, x.ok) (sl : SliceOf w 6 LegD.vals l legs) (so : SliceOf w 1 vI o off) : Calls Try.prog 8 #[.agg #[l, o, .int .i64 ch], .string p, .int .i64 u, .int .i64 v] w (TrPN legs off ch p u v w) := by
  obtain ⟨A, c, rfl, hl, hm⟩ := sl.form
  obtain ⟨A', c', rfl, hl', hm'⟩ := so.form
  obtain ⟨i0, hi, hz0, hz1, hz2⟩ := info_parts info_tripT
  go_enter Try.func8, Try.ntmps8
  go_wp2_with fail
  obtain ⟨W0, hW0⟩ : ∃ W, W = w.alloc (.cells #[.slice A legs.length c, .slice A' off.length c', .int .i64 ch] 31) := ⟨_, rfl⟩
  rw [← hW0]
  have z0 : W0.heap.size = w.heap.size + 1 := by rw [hW0]; simp
  have b0 : Below w.heap.size w W0 := by rw [hW0]; go_grown
  have n0 : W0.cell? ⟨w.heap.size, 0, none⟩ = some (.slice A legs.length c) := by rw [hW0]; simp [go_sem]
  have n1 : W0.cell? ⟨w.heap.size, 1, none⟩ = some (.slice A' off.length c') := by rw [hW0]; simp [go_sem]
  have n2 : W0.cell? ⟨w.heap.size, 2, none⟩ = some (.int .i64 ch) := by rw [hW0]; simp [go_sem]
  clear hW0
  replace sl := sl.keep b0 (Nat.le_refl _)
  replace so := so.keep b0 (Nat.le_refl _)
  obtain ⟨nb, hnb⟩ : ∃ nb, nb = w.heap.size := ⟨_, rfl⟩
  obtain ⟨ob, hob⟩ : ∃ ob, ob = nb + 1 + 1 := ⟨_, rfl⟩
  rw [← hnb] at n0 n1 n2 z0
  rw [← hnb, ← hob]
  obtain ⟨W, hW⟩ : ∃ W, W = (W0.alloc (.cells #[] 45)).alloc (.cells #[.slice (some ⟨nb + 1, 0, none⟩) 0 0] 27) := ⟨_, rfl⟩
  rw [← hW]
  have hobs : W0.heap.size ≤ ob := by omega
  have hI : TInv W0 ob [] W (nb + 1) 0 := by
    have hO := own_none0 W0 45 2 TripD.vals
    rw [z0] at hO
    refine ⟨?_, ?_, ?_, by omega, ?_⟩
    · rw [hW, hob]; simp [go_sem, z0]
    · rw [hW, hob]; simp [go_sem, z0]
    · rw [hW, z0]; exact hO.alloc _
    · rw [hW]; exact below_allocI (below_allocI (Below.refl _ _) _) _
  have hwn : w.heap.size + 1 ≤ W0.heap.size := by omega
  have HNB := Lib.hid hnb; have HOB := Lib.hid hob; have HZ0 := Lib.hid z0
  clear hW hnb hob z0
  have SL := sl.keep hI.below (Nat.le_refl _)
  have SO := so.keep hI.below (Nat.le_refl _)
  refine (isNetI legs off ch _ _ _ hok SL SO).mono ?_
  rintro e w1 ⟨rfl, b1⟩
  replace hI := hI.keep b1
  clear SL SO b1
  cases hnet : netB legs off ch
  · have x9 := hI.obc
    have HI := Lib.hid hI; clear hI
    go_wp2_with fail
    go_ret
    exact ⟨_, [], rfl, HI.out.own.mono (by omega), Lib.hid ⟨fun h => by rw [hnet] at h; exact Bool.noConfusion h, fun _ => rfl⟩, Nat.zero_le _, chain b0 HI.out.below, by intro e; cases e⟩
  · have hln : legs.length ≤ 20 := by
      unfold netB at hnet
      simp only [Bool.and_eq_true, decide_eq_true_eq] at hnet
      exact hnet.1.1.2
    go_wp2_with fail
    go_loopw [10, 11, 12, 13] (fun dv _ _ _ wr => ∃ (dd : Nat) (L : List TripD) (g c : Nat), dd ≤ 61 ∧ dv = .int .i64 (dd : Int) ∧ TInv W0 ob L wr g c ∧ Hid (Gath legs off p u v (DoneI dd 0) L) ∧ L.length ≤ dd * 20) (fun dv _ _ _ _ => 61 - (intOf dv).toNat)
    case atStart => exact ⟨0, [], _, _, Nat.zero_le _, rfl, hI, Lib.hid Gath.zero, Nat.zero_le _⟩
    case round =>
      clear hI
      obtain ⟨dd, L, g, cp, hdd, rfl, hI, HG, hLn⟩ := hrel
      have hB := hI.below
      have x0 := cell_keep hB n0
      have x1 := cell_keep hB n1
      have x2 := cell_keep hB n2
      by_cases hlt : dd < 61
      · have hlt' : (dd : Int) ≤ 60 := by omega
        obtain ⟨wo, rfl⟩ : ∃ wo : World, wo = wr := ⟨_, rfl⟩
        have HI0 := Lib.hid hI; clear hI hB
        go_wp2_with fail
        go_loopw [11, 12, 13, 26] (fun _ _ _ iv wr => ∃ (i : Nat) (L : List TripD) (g c : Nat), i ≤ legs.length ∧ iv = .int .i64 (i : Int) ∧ TInv W0 ob L wr g c ∧ Hid (Gath legs off p u v (DoneI dd i) L) ∧ L.length ≤ dd * 20 + i) (fun _ _ _ iv _ => legs.length - (intOf iv).toNat)
        case atStart => exact ⟨0, L, g, cp, Nat.zero_le _, rfl, HI0.out, HG, hLn⟩
        case round =>
          clear x0 x1 x2 HI0 HG hLn L g cp
          obtain ⟨i, L, g, cp, hil, rfl, hI, HG, hLn⟩ := hrel
          by_cases hi2 : i < legs.length
          · obtain ⟨b_, off_, x, rfl, hb_, hx, hcell⟩ := sl.cells hi2
            have hB := hI.below
            have x0 := cell_keep hB n0
            have x1 := cell_keep hB n1
            have x2 := cell_keep hB n2
            have SL := sl.keep hB (Nat.le_refl _)
            have SO := so.keep hB (Nat.le_refl _)
            have hgi := good_iff (off := off) (p := p) (u := u) (v := v) (d := dd) hx.out
            obtain ⟨f, t, q2, q3, q4, q5⟩ := x
            simp only at hgi
            have HGI := Lib.hid hgi; clear hgi
            have c0 : wr.cell? ⟨b_, off_ + i * 6, none⟩ = some (.string f) := (hB.cell (p := ⟨b_, _, none⟩) hb_).trans (hcell 0 _ rfl)
            have c1 : wr.cell? ⟨b_, off_ + i * 6 + 1, none⟩ = some (.string t) := (hB.cell (p := ⟨b_, _, none⟩) hb_).trans (hcell 1 _ rfl)
            have c2 : wr.cell? ⟨b_, off_ + i * 6 + 2, none⟩ = some (.int .i64 q2) := (hB.cell (p := ⟨b_, _, none⟩) hb_).trans (hcell 2 _ rfl)
            have c3 : wr.cell? ⟨b_, off_ + i * 6 + 3, none⟩ = some (.int .i64 q3) := (hB.cell (p := ⟨b_, _, none⟩) hb_).trans (hcell 3 _ rfl)
            have c4 : wr.cell? ⟨b_, off_ + i * 6 + 4, none⟩ = some (.int .i64 q4) := (hB.cell (p := ⟨b_, _, none⟩) hb_).trans (hcell 4 _ rfl)
            have c5 : wr.cell? ⟨b_, off_ + i * 6 + 5, none⟩ = some (.int .i64 q5) := (hB.cell (p := ⟨b_, _, none⟩) hb_).trans (hcell 5 _ rfl)
            have nbl := cell_lt x0
            simp only at nbl
            have nb1 : nb ≠ wr.heap.size := Nat.ne_of_lt nbl
            have nb2 : nb ≠ wr.heap.size + 1 := by omega
            clear hcell hB
            have hdk : okI (dd : Int) := by unfold okI; omega
            have hik : okI (i : Int) := by unfold okI; omega
            have HI := Lib.hid hI; clear hI
            cases heq : (f.toList == p.toList)
            · have hne := txt_no heq
              have HNE := Lib.hid hne; clear hne
              have HS := Lib.hid (HG.out.skip (fun h => HNE.out (HGI.out.1 h).1))
              clear HG
              go_wp2_with fail
              go_roundw
              case rel => exact ⟨i + 1, L, g, cp, by omega, by go_num, HI.out.keep (below_allocI (below_allocI (Below.refl _ _) _) _), HS, by omega⟩
              case measure => simp [intOf]; omega
            · have hyes := txt_yes heq
              have HYES := Lib.hid hyes; clear hyes
              go_wp2_with fail
              clear c0 c1 c2 c3 c4 c5
              obtain ⟨V, hV⟩ : ∃ V, V = (wr.alloc (.cells #[.string f, .string t, .int .i64 q2, .int .i64 q3, .int .i64 q4, .int .i64 q5] 47)).alloc (.cells #[.int .i64 (i : Int), .int .i64 (dd : Int)] 45) := ⟨_, rfl⟩
              rw [← hV]
              obtain ⟨tb, htb⟩ : ∃ tb, tb = wr.heap.size + 1 := ⟨_, rfl⟩
              try rw [← htb]
              have t0 : V.cell? ⟨tb, 0, none⟩ = some (.int .i64 (i : Int)) := by rw [hV, htb]; simp [go_sem]
              have t1 : V.cell? ⟨tb, 1, none⟩ = some (.int .i64 (dd : Int)) := by rw [hV, htb]; simp [go_sem]
              have bV : Below wr.heap.size wr V := by rw [hV]; exact below_allocI (below_allocI (Below.refl _ _) _) _
              clear hV
              have HTB := Lib.hid htb; clear htb
              replace x0 := cell_keep bV x0
              replace x1 := cell_keep bV x1
              replace x2 := cell_keep bV x2
              replace SL := SL.keep bV (Nat.le_refl _)
              replace SO := SO.keep bV (Nat.le_refl _)
              replace HI := Lib.hid (HI.out.keep bV)
              clear bV
              refine (runsI legs off ch i dd _ _ _ hnet hik hdk SL SO).mono ?_
              rintro e w2 ⟨rfl, b2⟩
              replace x0 := cell_keep b2 x0
              replace x1 := cell_keep b2 x1
              replace x2 := cell_keep b2 x2
              replace SL := SL.keep b2 (Nat.le_refl _)
              replace SO := SO.keep b2 (Nat.le_refl _)
              replace t0 := cell_keep b2 t0
              replace t1 := cell_keep b2 t1
              replace HI := Lib.hid (HI.out.keep b2)
              clear b2
              cases hr : runsB legs off i dd
              · have HR := Lib.hid hr
                have HS := Lib.hid (HG.out.skip (fun h => by have := (HGI.out.1 h).2.1; rw [HR.out] at this; exact Bool.noConfusion this))
                clear HG
                go_wp2_with fail
                go_roundw
                case rel => exact ⟨i + 1, L, g, cp, by omega, by go_num, HI.out, HS, by omega⟩
                case measure => simp [intOf]; omega
              · have HR := Lib.hid hr
                go_wp2_with fail
                refine (startsI legs off ch dd i _ _ _ hnet hi2 (by omega) hlt' SL SO).mono ?_
                rintro e w3 ⟨rfl, b3⟩
                replace x0 := cell_keep b3 x0
                replace x1 := cell_keep b3 x1
                replace x2 := cell_keep b3 x2
                replace SL := SL.keep b3 (Nat.le_refl _)
                replace SO := SO.keep b3 (Nat.le_refl _)
                replace t0 := cell_keep b3 t0
                replace t1 := cell_keep b3 t1
                replace HI := Lib.hid (HI.out.keep b3)
                clear b3
                by_cases hu : u ≤ startT legs (i : Int) (dd : Int)
                rotate_left
                · have hu' := Int.not_le.1 hu
                  have HS := Lib.hid (HG.out.skip (fun h => hu (HGI.out.1 h).2.2.1))
                  clear HG
                  go_wp2_with fail
                  go_roundw
                  case rel => exact ⟨i + 1, L, g, cp, by omega, by go_num, HI.out, HS, by omega⟩
                  case measure => simp [intOf]; omega
                go_wp2_with fail
                refine (startsI legs off ch dd i _ _ _ hnet hi2 (by omega) hlt' SL SO).mono ?_
                rintro e w4 ⟨rfl, b4⟩
                replace x0 := cell_keep b4 x0
                replace x1 := cell_keep b4 x1
                replace x2 := cell_keep b4 x2
                replace SL := SL.keep b4 (Nat.le_refl _)
                replace SO := SO.keep b4 (Nat.le_refl _)
                replace t0 := cell_keep b4 t0
                replace t1 := cell_keep b4 t1
                replace HI := Lib.hid (HI.out.keep b4)
                clear b4
                by_cases hv : startT legs (i : Int) (dd : Int) < v
                rotate_left
                · have hv' := Int.not_lt.1 hv
                  have HS := Lib.hid (HG.out.skip (fun h => hv (HGI.out.1 h).2.2.2))
                  clear HG
                  go_wp2_with fail
                  go_roundw
                  case rel => exact ⟨i + 1, L, g, cp, by omega, by go_num, HI.out, HS, by omega⟩
                  case measure => simp [intOf]; omega
                have HGP := Lib.hid (HG.out.put (HGI.out.2 ⟨HYES.out, HR.out, hu, hv⟩))
                have hI4 := HI.out
                have oc4 := hI4.obc
                have of4 := hI4.fz
                have own4 := hI4.own
                have z4 := hI4.below.size
                clear HI
                have HI := Lib.hid hI4; clear hI4
                go_wp2_with (at_builtin; refine wpList_append_own_at _ rfl (.tmp 58) (.tmp 60) 27 rfl W0.heap.size 45 i0 (.agg #[.int .i64 0, .int .i64 0]) 2 16 Try.underlying27 hi hz0 hz1 hz2 rfl (by decide) _ _ _ rfl (World.ownsRow.alloc own4 _) _ 1 1 [.int .i64 (i : Int), .int .i64 (dd : Int)] rfl rfl ?c1a ?c2a ?c3a ?c4a ?c5a ?_)
                try (case c1a =>
                  intro j u hj
                  match j, hj with
                  | 0, hj => simp at hj; subst hj; simp [go_sem, Addr.add]
                  | 1, hj => simp at hj; subst hj; simp [go_sem, Addr.add])
                case c2a => first | (intro u hu; simp at hu; rcases hu with rfl | rfl <;> rfl) | exact ⟨rfl, rfl⟩
                case c3a => first | (unfold maxLen; omega) | omega
                case c4a => omega
                case c5a => first | (simp; omega) | omega
                intro v' w7 hown' hgrow hnil hwh
                obtain ⟨L9, g', c9, rfl, HL9, hc7, hf7, hI8⟩ := TInv.put (t := ⟨(i : Int), (dd : Int)⟩) hobs (HI.out.keep (below_allocI (Below.refl _ _) _)) hown' hgrow (by first | exact hnil | (intro e; exact absurd (hnil.1 e).2 (by decide))) (by first | exact hwh | (rw [show ∀ o : Obj, (w4.alloc o).heap.size = w4.heap.size + 1 from fun o => by simp]; exact hwh))
                rw [← HL9.out] at HGP
                have hl9 : Hid (L9.length = L.length + 1) := Lib.hid (by rw [HL9.out]; simp)
                have HI8 := Lib.hid hI8
                clear hI8 HI hown' hgrow hnil hwh own4 of4 oc4
                go_wp2_with fail
                go_roundw
                case rel => exact ⟨i + 1, L9, g', c9, by omega, by go_num, HI8.out, HGP, by have := hl9.out; omega⟩
                case measure => simp [intOf]; omega
          · obtain rfl : i = legs.length := by omega
            have HN := Lib.hid HG.out.next
            clear HG
            go_wp2_with fail
            go_roundw
            case rel => exact ⟨dd + 1, L, g, cp, by omega, by go_num, hI, HN, by omega⟩
            case measure => simp [intOf]; omega
      · obtain rfl : dd = 61 := by omega
        have HA := Lib.hid HG.out.last
        obtain ⟨n, hn⟩ : ∃ n, n = L.length := ⟨_, rfl⟩
        obtain ⟨d, hd⟩ : ∃ d : Nat → TripD, d = fun k => (L[k]?).getD ⟨0, 0⟩ := ⟨_, rfl⟩
        have hrow : rowL n d = L := by rw [hn, hd]; exact rowL_of L
        have TF : TFix W0 legs off ch _ _ nb ob g := ⟨n0, n1, n2, sl, so, hnet, hI.ne⟩
        have hT : TSt W0 legs ob g cp n wr d := ⟨hI.below, by rw [hn]; exact hI.obc, by rw [hrow, hn]; exact hI.own, fun k hk => by
          have hm : d k ∈ L := by rw [← hrow]; exact rowL_mem.2 ⟨k, hk, rfl⟩
          exact ((HA.out.mem _).1 hm).1.box⟩
        have o4 := hT.obc
        have HA2 : Hid (Gath legs off p u v (fun _ => True) (rowL n d)) := Lib.hid (by rw [hrow]; exact HA.out)
        have hn20 : n ≤ 1220 := by omega
        have HT := Lib.hid hT; have HTF := Lib.hid TF
        clear hT TF hI hd hrow hn HA HG hB x0 x1 x2 hLn L
        go_wp2_with fail
        refine (sortTrips HTF.out HT.out (by omega)).mono ?_
        rintro e w5 ⟨rfl, d', hT5, HS5, hg5⟩
        have o5 := hT5.obc
        have HT5 := Lib.hid hT5; clear hT5 o4 HT
        go_wp2_with fail
        go_ret
        exact ⟨_, rowL n d', rfl, HT5.out.own.mono (by omega), Lib.hid ⟨fun _ => HA2.out.sorted HS5.out.1 HS5.out.2, fun h => by rw [hnet] at h; exact Bool.noConfusion h⟩, by rw [rowL_len]; exact hn20, chain b0 HT5.out.below, by intro e; cases e⟩
theorem tripsI (legs : List LegD) (off : List Int) (ch : Int) (p : ByteArray) (u v : Int) (l o : Value) (w : World) (hok : ∀ x ∈ legs, x.ok) (sl : SliceOf w 6 LegD.vals l legs) (so : SliceOf w 1 vI o off) : Calls Try.prog 8 #[.agg #[l, o, .int .i64 ch], .string p, .int .i64 u, .int .i64 v] w (TrP legs off ch p u v w) :=
  (tripsIN legs off ch p u v l o w hok sl so).mono fun e w' ⟨vv, L, h1, h2, h3, h4, h5, _⟩ => ⟨vv, L, h1, h2, h3, h4, h5⟩
end Go.Proofs.Ytdmeinfdldiegaa
