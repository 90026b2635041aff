/- The program's own string, word by word. -/
import Derived.Test.YtjoiadaogppmkaaRows
import Derived.WalkKit
import Derived.ProofKit
namespace Go.Proofs.Ytjoiadaogppmkaa.Sh
open Go
def wordA : List Nat := [104, 97, 114, 110, 101, 115, 115]
def wordS : List Nat := [55, 49, 53, 51, 55, 102, 57, 100, 54, 97, 55, 97, 51, 51, 57, 101, 53, 51, 98, 99, 49, 56, 56, 101, 101, 55, 48, 50, 97, 98, 52, 102, 51, 48, 101, 99, 53, 98, 49, 57, 101, 102, 99, 48, 101, 99, 50, 102, 49, 50, 55, 57, 48, 97, 99, 52, 99, 55, 98, 51, 98, 48, 53, 101]
def wordC : List Nat := [99, 117, 116]
def wordR : List Nat := [97, 116, 32, 108, 111, 111, 112, 46, 101, 120, 97, 109, 112, 108, 101, 47, 107, 101, 101, 108, 115, 111, 110, 47, 108, 97, 119, 115, 46, 70, 110, 80, 108, 97, 110, 65, 108, 108, 32, 108, 111, 111, 112, 46, 101, 120, 97, 109, 112, 108, 101, 47, 107, 101, 101, 108, 115, 111, 110, 47, 108, 97, 119, 115, 46, 70, 110, 69, 120, 97, 99, 116, 80, 108, 97, 110, 65, 108, 108, 32, 108, 111, 111, 112, 46, 101, 120, 97, 109, 112, 108, 101, 47, 107, 101, 101, 108, 115, 111, 110, 47, 108, 97, 119, 115, 46, 70, 110, 83, 116, 114, 105, 112, 101, 78, 101, 119, 32, 108, 111, 111, 112, 46, 101, 120, 97, 109, 112, 108, 101, 47, 107, 101, 101, 108, 115, 111, 110, 47, 108, 97, 119, 115, 46, 70, 110, 69, 120, 97, 99, 116, 83, 116, 114, 105, 112, 101, 79, 107, 32, 108, 111, 111, 112, 46, 101, 120, 97, 109, 112, 108, 101, 47, 107, 101, 101, 108, 115, 111, 110, 47, 108, 97, 119, 115, 46, 70, 110, 69, 120, 97, 99, 116, 83, 116, 114, 105, 112, 101, 84, 111, 112]
def chars (l : List Nat) : List Char := l.map Char.ofNat
theorem words_append (r : List Char) : ∀ w : List Char, (∀ c ∈ w, c ≠ Char.ofNat 32) → wordsSigns (w ++ Char.ofNat 32 :: r) = w :: wordsSigns r
  | [], _ => rfl
  | c :: w, h => by
    have ih := words_append r w fun d hd => h d (List.mem_cons_of_mem _ hd)
    have hc : c ≠ Char.ofNat 32 := h c List.mem_cons_self
    rw [List.cons_append, wordsSigns, ih]
    exact hc
theorem order_eq : Try.prog.initOrder = String.ofList (chars (wordA ++ 32 :: (wordS ++ 32 :: (wordC ++ 32 :: wordR)))) := by kernel_rfl
theorem order_toList : Try.prog.initOrder.toList = chars wordA ++ Char.ofNat 32 :: (chars wordS ++ Char.ofNat 32 :: (chars wordC ++ Char.ofNat 32 :: chars wordR)) := by
  rw [order_eq, String.toList_ofList]
  simp only [chars, List.map_append, List.map_cons]
theorem order_words : wordsSigns Try.prog.initOrder.toList = chars wordA :: chars wordS :: chars wordC :: wordsSigns (chars wordR) := by
  rw [order_toList, words_append _ _ (by decide), words_append _ _ (by decide), words_append _ _ (by decide)]
theorem behind_of {h s : List Char} {r : List (List Char)} (hb : ((h == "harness".toList || h == "ownmain".toList) && isSumSigns s) = true) : behindMainWord (h :: s :: r) = r := by
  simp only [behindMainWord, hb, if_true]
theorem order_head : ((chars wordA == "harness".toList || chars wordA == "ownmain".toList) && isSumSigns (chars wordS)) = true := by decide +kernel
theorem order_behind : behindMainWord (wordsSigns Try.prog.initOrder.toList) = chars wordC :: wordsSigns (chars wordR) := by
  rw [order_words]
  exact behind_of order_head
theorem make_of {P : Program} {c : List Char} {r : List (List Char)} (h : behindMainWord (wordsSigns P.initOrder.toList) = c :: r) (h1 : (c == "gc".toList || c == "spec".toList) = false) (h2 : (c == "cut".toList) = true) : P.make = some .cut := by
  unfold Program.make
  rw [h]
  simp only [h1, h2, Bool.true_or, if_true, Bool.false_eq_true, if_false]
theorem make_eq : Try.prog.make = some .cut := make_of order_behind (by decide +kernel) (by decide +kernel)
theorem strip_none {c : List Char} {r : List (List Char)} : ∀ os : List String, (os.all fun o => !(c == o.toList)) = true → stripLifts os (c :: r) = ([], c :: r)
  | [], _ => rfl
  | o :: os, h => by
    simp only [List.all_cons, Bool.and_eq_true, Bool.not_eq_true'] at h
    rw [stripLifts, h.1]
    exact strip_none os (by simpa using h.2)
theorem may_of {P : Program} {c : List Char} {r : List (List Char)} (h : behindMainWord (wordsSigns P.initOrder.toList) = c :: r) (hs : stripLifts liftWords (c :: r) = ([], c :: r)) (h3 : c = "cut".toList)
    (l : P.laysLater = false) (b : P.bearsReflect = false) (d : P.doorFits [] = true) : P.mayEnter = true := by
  unfold Program.mayEnter
  rw [h]
  dsimp only
  rw [hs]
  subst h3
  simp [l, b, d]
theorem mayEnter_eq : Try.prog.mayEnter = true :=
  may_of order_behind (strip_none _ (by decide +kernel)) (by decide +kernel) (by kernel_rfl) (by kernel_rfl) (by kernel_rfl)
theorem lifts_of {P : Program} {c : List Char} {r : List (List Char)} (h : behindMainWord (wordsSigns P.initOrder.toList) = c :: r) (hs : stripLifts liftWords (c :: r) = ([], c :: r)) (h3 : c = "cut".toList) : P.liftsFinal = false := by
  unfold Program.liftsFinal Program.headLifts
  rw [h]
  dsimp only
  rw [hs]
  subst h3
  simp
theorem lifts_eq : Try.prog.liftsFinal = false := lifts_of order_behind (strip_none _ (by decide +kernel)) (by decide +kernel)
end Go.Proofs.Ytjoiadaogppmkaa.Sh

