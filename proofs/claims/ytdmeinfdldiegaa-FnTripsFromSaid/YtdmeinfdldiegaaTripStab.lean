/- The library's stable sort of a row of trips, at every length. No condition. -/
import Derived.Test.YtdmeinfdldiegaaTripSort
import Derived.Lib.AppendIntMem
namespace Go.Proofs.Ytdmeinfdldiegaa
open Go.RowKit Go.PlainAid Go.Shelf
set_option maxRecDepth 100000
set_option linter.unusedVariables false
theorem tripEnv {w0 : World} {legs : List LegD} {off : List Int} {ch : Int} {l o : Value} {nb ob g c n : Nat} (F : TFix w0 legs off ch l o nb ob g) (hn : n < 1099511627776) :
    SEnv 31 73 #[.pointer (some ⟨nb, 0, none⟩), .pointer (some ⟨ob, 0, none⟩)] #[.slice (some ⟨g, 0, none⟩) n c, typeHandle Try.prog 45] (ltT legs) n g (TSt w0 legs ob g c n) where
  keep h hb := h.keep hb
  lt_ h := h.row.2
  enter := enters_of Try.func31 (by kernel_rfl) rfl
  less i j x y hx hy h hi hj := lessT F h i j x y hx hy hi hj hn
  swap i j x y hx hy h hi hj := by subst hx hy; exact TSt.swap F.ne h i j hi hj
theorem trips_info : (Try.prog.info? 27).map (fun i => i.desc) = some (.slice 45) := by kernel_rfl
theorem swapperK9 {n : Nat} {ie : TypeInfo} {ke : Nat} (h2 : 2 ≤ n) (hb : ie.bytes = 16) (hp : ie.hasPointers = false) : Lib.swapperK n ie ke = 9 := by
  have c : (n == 0) = false := by simp; omega
  have d : (n == 1) = false := by simp; omega
  unfold Lib.swapperK
  simp [c, d, hb, hp]
/-- What the sort answers. -/
def SortP (w0 : World) (legs : List LegD) (ob g c n : Nat) (d : Nat → TripD) (w : World) (w' : World) : Prop := ∃ d', TSt w0 legs ob g c n w' d' ∧ Hid (SB.Srt (ltT legs) d' 0 n ∧ SB.Mv 0 n d d') ∧ w.grownBy w' (some g)
theorem sortTrips {w0 w : World} {legs : List LegD} {off : List Int} {ch : Int} {l o : Value} {nb ob g c n : Nat} {d : Nat → TripD} (F : TFix w0 legs off ch l o nb ob g) (h : TSt w0 legs ob g c n w d) (hn : n < 1099511627776) :
    Calls Try.prog 30 #[.iface 27 (.slice (some ⟨g, 0, none⟩) n c), .func (.func 31) #[] #[.pointer (some ⟨nb, 0, none⟩), .pointer (some ⟨ob, 0, none⟩)]] w fun e w' => e = .returned (.tuple #[]) ∧ SortP w0 legs ob g c n d w w' := by
  obtain ⟨ie, hie, hie2⟩ := Option.map_eq_some_iff.1 trip_info
  obtain ⟨i, hi, hd⟩ := Option.map_eq_some_iff.1 trips_info
  have hs : ie.size = 2 := by injection hie2
  have hb : ie.bytes = 16 := by injection hie2 with _ h2; injection h2
  have hp : ie.hasPointers = false := by injection hie2 with _ h2; injection h2
  have hpk : Try.prog.packed 27 = false := by kernel_rfl
  have hke : ∀ w, (Extern.Rtype.kind 45).run Try.prog w = .ok 25 w := fun w => by kernel_rfl
  rcases Nat.lt_or_ge n 2 with hn1 | hn2
  · have go : ∀ os, SortP w0 legs ob g c n d w (Go.Sort.grow w os) := fun os => by
      have hB : Below w.heap.size w (Go.Sort.grow w os) := Lib.below_grow w.heap.size w (Nat.le_refl _) 0 os
      exact ⟨d, h.keep hB, Lib.hid ⟨SB.Srt.one _ _ (by omega), SB.Mv.refl _ _ _⟩, gr_below (gr_refl _ _) hB⟩
    rcases (show n = 0 ∨ n = 1 by omega) with rfl | rfl
    · refine (Any.sort_SliceStable_tiny Try.laysGt8 27 45 i ie hi hd hpk hie 25 hke (some ⟨g, 0, none⟩) 0 c (by omega) 65 (by kernel_rfl) _ _ _ w).mono ?_
      rintro e w' ⟨rfl, os, rfl⟩
      exact ⟨rfl, go os⟩
    · refine (Any.sort_SliceStable_tiny Try.laysGt8 27 45 i ie hi hd hpk hie 25 hke (some ⟨g, 0, none⟩) 1 c (by omega) 66 (by kernel_rfl) _ _ _ w).mono ?_
      rintro e w' ⟨rfl, os, rfl⟩
      exact ⟨rfl, go os⟩
  · refine Any.sort_SliceStable_of_stable Try.laysGt8 27 45 i ie hi hd hpk hie 25 hke (some ⟨g, 0, none⟩) n c (by omega) 73 (by rw [swapperK9 hn2 hb hp]; kernel_rfl) _ _ _ w _ ?_
    have hB : Below w.heap.size w (stableWorld Try.prog Try.laysGt8_ren 27 (some ⟨g, 0, none⟩) n c w) := by
      unfold stableWorld
      exact ((Below.refl _ _).alloc (Nat.le_refl _) _).alloc (by simp) _
    have hsb : sliceBound Try.prog 45 ie 25 (some ⟨g, 0, none⟩) n c = #[.slice (some ⟨g, 0, none⟩) n c, typeHandle Try.prog 45] := by
      unfold sliceBound; rw [swapperK9 hn2 hb hp]; rfl
    rw [hsb]
    refine (stable_any (tripEnv F hn) (ltT_ord legs) hn (n : Int) rfl _ d (h.keep hB)).mono ?_
    rintro e w' ⟨d', rfl, h1, h2, h3⟩
    exact ⟨rfl, d', h1, h2, gr_trans (gr_below (gr_refl _ _) hB) h3⟩
end Go.Proofs.Ytdmeinfdldiegaa
