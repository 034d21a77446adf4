/- What an argument of each type is known to be when the call begins: an integer, a string, a struct, a slice whose cells are there. No condition. -/
import Derived.Test.YthpgnlmkgllonaaBase
import Derived.Lib.SmallJoins
import Derived.Deep.Slices
import Derived.Deep.Fields
import Derived.ChangeSame
import Derived.SizedLaws
namespace Go.Proofs.Ythpgnlmkgllonaa
open Go.RowKit Go.PlainAid Go.ChangeShapes Go.WideShapes Go.Deep Go.Joins
open Go.ChangeMaps (open_string shut_string)

theorem block_of_add (a : Addr) (n : Nat) : (a.add n).block = a.block := by unfold Addr.add; split <;> rfl
theorem add_of_add (a : Addr) (i j : Nat) : (a.add i).add j = a.add (i + j) := by
  unfold Addr.add
  by_cases hi : i = 0 <;> by_cases hj : j = 0 <;> simp [hi, hj, Nat.add_assoc]
def okI (a : Int) : Prop := -9223372036854775808 ≤ a ∧ a ≤ 9223372036854775807
theorem okI_of {a : Int} (h : (Lit.int .i64 a).wf = true) : okI a := by
  simp [Lit.wf, IntKind.min, IntKind.max, IntKind.signed, IntKind.bits] at h
  exact h

/-- An integer; a string. -/
def VInt (v : Value) : Prop := ∃ a : Int, v = .int .i64 a ∧ okI a
def VStr (v : Value) : Prop := ∃ s : ByteArray, v = .string s ∧ s.size ≤ maxLen
/-- A slice value v that reads as the list xs, each element's cells being 'vals' of it. -/
def SliceOf {α : Type} (w : World) (size : Nat) (vals : α → List Value) (v : Value) (xs : List α) : Prop :=
  ∃ A c, v = .slice A xs.length c ∧ xs.length ≤ c ∧ c ≤ maxLen ∧ (0 < xs.length → ∃ b off, A = some ⟨b, off, none⟩ ∧ b < w.heap.size ∧
    ∀ (k : Nat) (x : α) (j : Nat) (u : Value), xs[k]? = some x → (vals x)[j]? = some u → w.cell? ⟨b, off + (k * size + j), none⟩ = some u)
theorem SliceOf.keep {α : Type} {w w' : World} {size : Nat} {vals : α → List Value} {v : Value} {xs : List α} (h : SliceOf w size vals v xs) {B : Nat} (hb : Below B w w') (hB : w.heap.size ≤ B) : SliceOf w' size vals v xs := by
  obtain ⟨A, c, rfl, h1, h2, h3⟩ := h
  refine ⟨A, c, rfl, h1, h2, fun hn => ?_⟩
  obtain ⟨b, off, rfl, hlt, hc⟩ := h3 hn
  exact ⟨b, off, rfl, Nat.lt_of_lt_of_le hlt hb.size, fun k x j u hx hu => (hb.cell (p := ⟨b, _, none⟩) (Nat.lt_of_lt_of_le hlt hB)).trans (hc k x j u hx hu)⟩
theorem slice_keep {α : Type} {a b : World} {size : Nat} {vals : α → List Value} {v : Value} {xs : List α} (k : Below a.heap.size a b) (h : SliceOf a size vals v xs) : SliceOf b size vals v xs := h.keep k (Nat.le_refl _)
theorem slice_drew {α : Type} {a : World} {size : Nat} {vals : α → List Value} {v : Value} {xs : List α} (h : SliceOf a size vals v xs) : SliceOf a.drew size vals v xs := h

section
variable {H : Type} {enc : TypeId × Value → H} {P : Program} {w : World} {base : Nat} {spare : Nat → Bool} {held : Bool}
/-- One cell that reads at int, at string. -/
theorem cint {t fuel : Nat} {v : Value} {y : DataW H × List MemPlace} (ht : P.underlying t = some (.int .i64)) (h : DataW.trod enc P w base spare held fuel t [v] = some y) : VInt v := by
  obtain ⟨a, h1, _, h2⟩ := DataW.trod_int ht h
  exact ⟨a, by simpa using h1, okI_of h2⟩
theorem cstr {t fuel : Nat} {v : Value} {y : DataW H × List MemPlace} (ht : P.underlying t = some .string) (h : DataW.trod enc P w base spare held fuel t [v] = some y) : VStr v := by
  obtain ⟨s, h1, _, h2⟩ := DataW.trod_string ht h
  exact ⟨s, by simpa using h1, h2⟩
/-- A slice whose elements are read by 'hel': each element's cells are the values of some x. -/
theorem slice_of {α : Type} {t e fuel : Nat} {size : Nat} {vals : α → List Value} {v : Value} {y : DataW H × List MemPlace} (ht : P.underlying t = some (.slice e)) (hC : P.cellsOf e = size)
    {ok : α → Prop} (hel : ∀ (n : Nat) (cs : List Value) (z : DataW H × List MemPlace), cs.length = size → DataW.trod enc P w base spare held n e cs = some z → ∃ x, ok x ∧ vals x = cs)
    (hpos : 0 < size) (h : DataW.trod enc P w base spare held fuel t [v] = some y) : ∃ xs : List α, (∀ x ∈ xs, ok x) ∧ SliceOf w size vals v xs := by
  rcases open_slice ht h with ⟨hcs, _⟩ | ⟨a, len, cap, m, n, D, Pl, hcs, _, hl, hm, hmm, _, hi⟩
  · simp at hcs
    subst hcs
    exact ⟨[], fun x hx => by simp at hx, none, 0, rfl, by simp, by unfold maxLen; omega, fun h => by simp at h⟩
  · simp at hcs
    subst hcs
    have hlm : len ≤ m := by rw [hmm]; split <;> omega
    have key : ∀ i : Fin len, ∃ x : α, ok x ∧ ∀ j u, (vals x)[j]? = some u → w.cell? (a.add (i.1 * size + j)) = some u := by
      intro i
      obtain ⟨cs', hc, ht'⟩ := hi i.1 (by have := i.2; omega)
      rw [hC] at hc
      obtain ⟨_, hcl, hat⟩ := World.cells?_some hc
      obtain ⟨x, hok, hx⟩ := hel _ _ _ hcl ht'
      refine ⟨x, hok, fun j u hu => ?_⟩
      rw [hx] at hu
      have hj : j < size := by
        have := (List.getElem?_eq_some_iff.1 hu).1
        omega
      rw [← add_of_add, hat j hj, hu]
    have hch : ∃ f : Fin len → α, ∀ i, ok (f i) ∧ ∀ j u, (vals (f i))[j]? = some u → w.cell? (a.add (i.1 * size + j)) = some u := Classical.axiomOfChoice key
    obtain ⟨f, hf⟩ := hch
    refine ⟨List.ofFn f, fun x hx => by obtain ⟨i, rfl⟩ := List.mem_ofFn.1 hx; exact (hf i).1, some a, cap, by simp, by simpa using hl, hm, fun hn => ?_⟩
    have hn' : 0 < len := by simpa using hn
    obtain ⟨b, off, spot⟩ := a
    have hspot : spot = none := by
      obtain ⟨cs', hc, ht'⟩ := hi 0 (by omega)
      rw [hC] at hc
      obtain ⟨_, hcl, hat⟩ := World.cells?_some hc
      have h0 := hat 0 hpos
      have h1 : cs'[0]? = some (cs'[0]'(by omega)) := List.getElem?_eq_getElem (by omega)
      rw [h1] at h0
      simpa [Addr.add] using World.cell?_spot h0
    subst hspot
    have hadd : ∀ q, (Addr.mk b off none).add q = ⟨b, off + q, none⟩ := by
      intro q; unfold Addr.add; split <;> simp_all
    refine ⟨b, off, rfl, ?_, ?_⟩
    · obtain ⟨cs', hc, ht'⟩ := hi 0 (by omega)
      rw [hC] at hc
      obtain ⟨_, hcl, hat⟩ := World.cells?_some hc
      have h0 := hat 0 hpos
      have h1 : cs'[0]? = some (cs'[0]'(by omega)) := List.getElem?_eq_getElem (by omega)
      rw [h1] at h0
      have := cell_lt h0
      rwa [block_of_add, block_of_add] at this
    · intro k x j u hx hu
      have hk : k < len := by
        have := (List.getElem?_eq_some_iff.1 hx).1
        simpa using this
      have := (hf ⟨k, hk⟩).2 j u (by
        have e : x = f ⟨k, hk⟩ := by
          rw [List.getElem?_ofFn] at hx
          simp [hk] at hx
          exact hx.symm
        rw [← e]; exact hu)
      rw [hadd] at this
      exact this
end

/-- A list of numbers; a list of bytes. -/
def vI (a : Int) : List Value := [.int .i64 a]
def vB (a : Int) : List Value := [.int .u8 a]
def okB (a : Int) : Prop := 0 ≤ a ∧ a ≤ 255
def VInts (w : World) (v : Value) : Prop := ∃ xs : List Int, (∀ x ∈ xs, okI x) ∧ SliceOf w 1 vI v xs
def VBytes (w : World) (v : Value) : Prop := ∃ xs : List Int, (∀ x ∈ xs, okB x) ∧ SliceOf w 1 vB v xs

/-- The records of the program. -/
structure LabelD where
  service : Int
  serial : Int
  dest : ByteArray
def LabelD.vals (d : LabelD) : List Value := [.int .i64 d.service, .int .i64 d.serial, .string d.dest]
def LabelD.ok (d : LabelD) : Prop := okI d.service ∧ okI d.serial ∧ d.dest.size ≤ maxLen
structure ZoneD where
  first : ByteArray
  last : ByteArray
def ZoneD.vals (d : ZoneD) : List Value := [.string d.first, .string d.last]
def ZoneD.ok (d : ZoneD) : Prop := d.first.size ≤ maxLen ∧ d.last.size ≤ maxLen
structure RateD where
  zone : Int
  service : Int
  limit : Int
  price : Int
def RateD.vals (d : RateD) : List Value := [.int .i64 d.zone, .int .i64 d.service, .int .i64 d.limit, .int .i64 d.price]
def RateD.ok (d : RateD) : Prop := okI d.zone ∧ okI d.service ∧ okI d.limit ∧ okI d.price
structure LegD where
  src : ByteArray
  dst : ByteArray
  start : Int
  takes : Int
  days : Int
  room : Int
def LegD.vals (d : LegD) : List Value := [.string d.src, .string d.dst, .int .i64 d.start, .int .i64 d.takes, .int .i64 d.days, .int .i64 d.room]
def LegD.ok (d : LegD) : Prop := d.src.size ≤ maxLen ∧ d.dst.size ≤ maxLen ∧ okI d.start ∧ okI d.takes ∧ okI d.days ∧ okI d.room
structure TripD where
  leg : Int
  day : Int
def TripD.vals (d : TripD) : List Value := [.int .i64 d.leg, .int .i64 d.day]
def TripD.ok (d : TripD) : Prop := okI d.leg ∧ okI d.day
structure ParcelD where
  label : LabelD
  src : ByteArray
  weight : Int
  sides : List Int
  value : Int
def ParcelD.ok (d : ParcelD) : Prop := d.label.ok ∧ d.src.size ≤ maxLen ∧ okI d.weight ∧ (∀ x ∈ d.sides, okI x) ∧ okI d.value
structure NetD where
  legs : List LegD
  off : List Int
  change : Int
def NetD.ok (d : NetD) : Prop := (∀ x ∈ d.legs, x.ok) ∧ (∀ x ∈ d.off, okI x) ∧ okI d.change

def VLabel (v : Value) : Prop := ∃ d : LabelD, d.ok ∧ v = .agg #[.int .i64 d.service, .int .i64 d.serial, .string d.dest]
def VTrip (v : Value) : Prop := ∃ d : TripD, d.ok ∧ v = .agg #[.int .i64 d.leg, .int .i64 d.day]
def VLeg (v : Value) : Prop := ∃ d : LegD, d.ok ∧ v = .agg #[.string d.src, .string d.dst, .int .i64 d.start, .int .i64 d.takes, .int .i64 d.days, .int .i64 d.room]
def VZones (w : World) (v : Value) : Prop := ∃ xs : List ZoneD, (∀ x ∈ xs, x.ok) ∧ SliceOf w 2 ZoneD.vals v xs
def VRates (w : World) (v : Value) : Prop := ∃ xs : List RateD, (∀ x ∈ xs, x.ok) ∧ SliceOf w 4 RateD.vals v xs
/-- A parcel, a network as values: their slices read as the record says. -/
def ParcelV (w : World) (v : Value) (d : ParcelD) : Prop := ∃ s, v = .agg #[.int .i64 d.label.service, .int .i64 d.label.serial, .string d.label.dest, .string d.src, .int .i64 d.weight, s, .int .i64 d.value] ∧ SliceOf w 1 vI s d.sides
def VParcel (w : World) (v : Value) : Prop := ∃ d : ParcelD, d.ok ∧ ParcelV w v d
def NetV (w : World) (v : Value) (d : NetD) : Prop := ∃ l o, v = .agg #[l, o, .int .i64 d.change] ∧ SliceOf w 6 LegD.vals l d.legs ∧ SliceOf w 1 vI o d.off
def VNet (w : World) (v : Value) : Prop := ∃ d : NetD, d.ok ∧ NetV w v d

section
variable {H : Type} {enc : TypeId × Value → H} {P : Program} {w : World} {base : Nat} {spare : Nat → Bool} {held : Bool}
theorem cints {t e fuel : Nat} {v : Value} {y : DataW H × List MemPlace} (ht : P.underlying t = some (.slice e)) (he : P.underlying e = some (.int .i64)) (hC : P.cellsOf e = 1) (h : DataW.trod enc P w base spare held fuel t [v] = some y) : VInts w v := by
  refine slice_of ht hC ?_ (by omega) h
  intro n cs z hcl hz
  obtain ⟨a, rfl, _, hw⟩ := DataW.trod_int he hz
  exact ⟨a, okI_of hw, rfl⟩
theorem cbytes {t e fuel : Nat} {v : Value} {y : DataW H × List MemPlace} (ht : P.underlying t = some (.slice e)) (he : P.underlying e = some (.int .u8)) (hC : P.cellsOf e = 1) (h : DataW.trod enc P w base spare held fuel t [v] = some y) : VBytes w v := by
  refine slice_of ht hC ?_ (by omega) h
  intro n cs z hcl hz
  obtain ⟨a, rfl, _, hw⟩ := DataW.trod_int he hz
  refine ⟨a, ?_, rfl⟩
  simp [Lit.wf, IntKind.min, IntKind.max, IntKind.signed, IntKind.bits] at hw
  exact hw
/-- A struct's cells, one a field, each with its own reading. -/
theorem fields_of {t fuel : Nat} {fs : Array Field} {cs : List Value} {y : DataW H × List MemPlace} (ht : P.underlying t = some (.struct fs)) (hone : oneCellFields P fs = true) (hC : P.cellsOf t = fs.size)
    (h : DataW.trod enc P w base spare held fuel t cs = some y) :
    cs.length = fs.size ∧ ∀ (j : Nat) (f : Field), fs[j]? = some f → ∃ v n z, cs[j]? = some v ∧ DataW.trod enc P w base spare held n f.type [v] = some z := by
  obtain ⟨ys, n', hn', hy, hlen, hyl, hf⟩ := DataW.trod_struct ht h
  refine ⟨hlen.trans hC, fun j f hj => ?_⟩
  obtain ⟨ho, hk⟩ := hone_of hone j f hj
  have hjl : j < fs.size := (Array.getElem?_eq_some_iff.1 hj).1
  have h1 := hf j f hj
  rw [ho, hk] at h1
  have hv : cs[j]? = some (cs[j]'(by omega)) := List.getElem?_eq_getElem (by omega)
  have hone' : (cs.drop j).take 1 = [cs[j]'(by omega)] := by
    rw [List.drop_eq_getElem_cons (by omega)]
    rfl
  rw [hone'] at h1
  have hys : ys[j]? = some (ys[j]'(by omega)) := List.getElem?_eq_getElem (by omega)
  exact ⟨_, n', _, hv, h1.trans hys⟩
end
end Go.Proofs.Ythpgnlmkgllonaa
