/- The words at the head of the translated program, read once as a list of letters: what the rows ask of them. No condition. -/
import Derived.Test.YthpgnlmkgllonaaRows
import Derived.ProofKit
namespace Go.Proofs.Ythpgnlmkgllonaa
set_option maxRecDepth 100000
def lt (l : List Nat) : List Char := l.map Char.ofNat
def hw0 : List Nat := [104, 97, 114, 110, 101, 115, 115]
def hw1 : List Nat := [99, 99, 100, 101, 50, 48, 55, 102, 52, 99, 50, 102, 50, 102, 98, 51, 102, 57, 48, 97, 102, 98, 100, 48, 48, 50, 50, 99, 97, 50, 100, 49, 102, 57, 54, 55, 48, 49, 50, 99, 50, 48, 98, 50, 99, 51, 56, 52, 55, 100, 52, 48, 98, 56, 101, 54, 49, 53, 98, 54, 49, 102, 53, 49]
def hw2 : List Nat := [99, 117, 116]
def hwR : List Nat := [97, 116, 32, 108, 111, 111, 112, 46, 101, 120, 97, 109, 112, 108, 101, 47, 103, 48, 51, 48, 49, 52, 47, 108, 97, 119, 115, 46, 70, 110, 69, 120, 97, 99, 116, 83, 111, 114, 116, 83, 105, 100, 101, 115]
theorem ws_word : ∀ (w r : List Char), (∀ c ∈ w, c ≠ Char.ofNat 32) → wordsSigns (w ++ Char.ofNat 32 :: r) = w :: wordsSigns r
  | [], r, _ => rfl
  | c :: w, r, h => by
    have ih := ws_word w r (fun x hx => h x (List.mem_cons_of_mem _ hx))
    have hc : c ≠ Char.ofNat 32 := h c (List.mem_cons_self ..)
    rw [List.cons_append, wordsSigns.eq_3 _ _ (fun e => hc e), ih]
theorem init_eq : Try.prog.initOrder = String.ofList (lt hw0 ++ Char.ofNat 32 :: (lt hw1 ++ Char.ofNat 32 :: (lt hw2 ++ Char.ofNat 32 :: lt hwR))) := by kernel_rfl
theorem behind {a b : List Char} {r : List (List Char)} (h : ((a == "harness".toList || a == "ownmain".toList) && isSumSigns b) = true) : behindMainWord (a :: b :: r) = r := by
  unfold behindMainWord
  exact if_pos h
theorem init_words : behindMainWord (wordsSigns Try.prog.initOrder.toList) = lt hw2 :: wordsSigns (lt hwR) := by
  rw [init_eq, String.toList_ofList, ws_word (lt hw0) _ (by decide), ws_word (lt hw1) _ (by decide), ws_word (lt hw2) _ (by decide)]
  exact behind (by decide +kernel)
theorem words_eq : wordsSigns Try.prog.initOrder.toList = lt hw0 :: lt hw1 :: wordsSigns (lt hw2 ++ Char.ofNat 32 :: lt hwR) := by
  rw [init_eq, String.toList_ofList, ws_word (lt hw0) _ (by decide), ws_word (lt hw1) _ (by decide)]
theorem main_of {P : Program} {h s : List Char} {r : List (List Char)} (e : wordsSigns P.initOrder.toList = h :: s :: r) (h1 : isSumSigns s = true) (h2 : (h == "harness".toList) = true) : P.mainIs = some (true, s) := by
  unfold Program.mainIs
  rw [e]
  show (if _ then _ else if _ then _ else _) = _
  rw [if_neg (by rw [h1]; exact Bool.false_ne_true), if_pos h2]
theorem main_ok : Try.prog.mainIs = some (true, "ccde207f4c2f2fb3f90afbd0022ca2d1f967012c20b2c3847d40b8e615b61f51".toList) := main_of words_eq (by decide +kernel) (by decide +kernel)
theorem strip_cut (r : List (List Char)) : stripLifts liftWords (lt hw2 :: r) = ([], lt hw2 :: r) := by kernel_rfl
theorem make_of {P : Program} {c : List Char} {rest : List (List Char)} (h : behindMainWord (wordsSigns P.initOrder.toList) = c :: rest) (h1 : (c == "gc".toList || c == "spec".toList) = false) (h2 : (c == "cut".toList) = true) : P.make = some .cut := by
  unfold Program.make
  rw [h]
  show (if _ then _ else if _ then _ else _) = _
  rw [if_neg (by rw [h1]; exact Bool.false_ne_true), if_pos (by rw [h2]; rfl)]
theorem lifts_of {P : Program} {c : List Char} {rest : List (List Char)} (h : behindMainWord (wordsSigns P.initOrder.toList) = c :: rest) (hs : stripLifts liftWords (c :: rest) = ([], c :: rest)) : P.headLifts = [] := by
  unfold Program.headLifts
  rw [h, hs]
  show (if _ then _ else _) = _
  split <;> rfl
theorem final_of {P : Program} {c : List Char} {rest : List (List Char)} (h : behindMainWord (wordsSigns P.initOrder.toList) = c :: rest) (h1 : (some c == some "carried".toList) = false) (hl : P.headLifts = []) : P.liftsFinal = false := by
  unfold Program.liftsFinal
  rw [h, hl]
  show ((some c == some "carried".toList && _) || _) = false
  rw [h1]
  rfl
theorem enter_of {P : Program} {c : List Char} {rest : List (List Char)} (h : behindMainWord (wordsSigns P.initOrder.toList) = c :: rest) (hs : stripLifts liftWords (c :: rest) = ([], c :: rest))
    (h2 : (some c == some "cut".toList) = true) (k1 : (([] : List String).contains "finals" || !P.laysLater) = true) (k2 : (([] : List String).contains "reflectrows" || !P.bearsReflect) = true) (k4 : P.doorFits [] = true) : P.mayEnter = true := by
  unfold Program.mayEnter
  rw [h]
  show (_ || _ || ((stripLifts liftWords (c :: rest)).2.head? == some "cut".toList && _ && _ && _ && _)) = true
  rw [hs]
  have e : (([] : List String), c :: rest).2.head? = some c := rfl
  rw [e, h2, k1, k2, k4]
  simp
theorem enter_ok : Try.prog.mayEnter = true := enter_of init_words (strip_cut _) (by decide +kernel) (by kernel_rfl) (by kernel_rfl) (by kernel_rfl)
theorem lift_ok : Try.prog.liftsFinal = false := final_of init_words (by decide +kernel) (lifts_of init_words (strip_cut _))
theorem make_ok : Try.prog.make = some .cut := make_of init_words (by decide +kernel) (by decide +kernel)
end Go.Proofs.Ythpgnlmkgllonaa
