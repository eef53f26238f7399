/-
  Closed facts on the translation of the seat Ytjolmhokeceljaa: what its head says, and what every row asks of the program alone; no condition.
-/
import Derived.Test.YtjolmhokeceljaaRows
import Derived.JoinedOf
import Derived.KernelRfl
namespace Go.Proofs.Ytjolmhokeceljaa.Head
open Go
set_option maxRecDepth 100000

theorem words_last (w : List Char) (h : w.all (fun c => decide (c ≠ Char.ofNat 32)) = true) : wordsSigns w = [w] := by
  induction w with
  | nil => rfl
  | cons c w ih =>
    simp only [List.all_cons, Bool.and_eq_true, decide_eq_true_eq] at h
    rw [wordsSigns.eq_3 _ _ h.1, ih h.2]
theorem words_cons (w r : List Char) (h : w.all (fun c => decide (c ≠ Char.ofNat 32)) = true) : wordsSigns (w ++ Char.ofNat 32 :: r) = w :: wordsSigns r := by
  induction w with
  | nil => rfl
  | cons c w ih =>
    simp only [List.all_cons, Bool.and_eq_true, decide_eq_true_eq] at h
    rw [List.cons_append, wordsSigns.eq_3 _ _ h.1, ih h.2]
def w0 : List Char := [Char.ofNat 104, Char.ofNat 97, Char.ofNat 114, Char.ofNat 110, Char.ofNat 101, Char.ofNat 115, Char.ofNat 115]
def w1 : List Char := [Char.ofNat 100, Char.ofNat 101, Char.ofNat 102, Char.ofNat 98, Char.ofNat 56, Char.ofNat 98, Char.ofNat 98, Char.ofNat 56, Char.ofNat 55, Char.ofNat 51, Char.ofNat 53, Char.ofNat 55, Char.ofNat 48, Char.ofNat 48, Char.ofNat 55, Char.ofNat 56, Char.ofNat 100, Char.ofNat 55, Char.ofNat 99, Char.ofNat 55, Char.ofNat 100, Char.ofNat 52, Char.ofNat 57, Char.ofNat 102, Char.ofNat 54, Char.ofNat 102, Char.ofNat 54, Char.ofNat 102, Char.ofNat 99, Char.ofNat 98, Char.ofNat 56, Char.ofNat 100, Char.ofNat 55, Char.ofNat 55, Char.ofNat 55, Char.ofNat 54, Char.ofNat 48, Char.ofNat 56, Char.ofNat 51, Char.ofNat 98, Char.ofNat 56, Char.ofNat 53, Char.ofNat 97, Char.ofNat 48, Char.ofNat 56, Char.ofNat 56, Char.ofNat 52, Char.ofNat 98, Char.ofNat 98, Char.ofNat 49, Char.ofNat 49, Char.ofNat 100, Char.ofNat 48, Char.ofNat 55, Char.ofNat 53, Char.ofNat 56, Char.ofNat 56, Char.ofNat 102, Char.ofNat 55, Char.ofNat 98, Char.ofNat 97, Char.ofNat 50, Char.ofNat 50, Char.ofNat 56]
def w2 : List Char := [Char.ofNat 99, Char.ofNat 117, Char.ofNat 116]
def w3 : List Char := [Char.ofNat 97, Char.ofNat 116]
def w4 : List Char := [Char.ofNat 115, Char.ofNat 111, Char.ofNat 98, Char.ofNat 114, Char.ofNat 105, Char.ofNat 113, Char.ofNat 117, Char.ofNat 101, Char.ofNat 116, Char.ofNat 47, Char.ofNat 115, Char.ofNat 111, Char.ofNat 98, Char.ofNat 114, Char.ofNat 105, Char.ofNat 113, Char.ofNat 117, Char.ofNat 101, Char.ofNat 116, Char.ofNat 108, Char.ofNat 97, Char.ofNat 119, Char.ofNat 49, Char.ofNat 50, Char.ofNat 46, Char.ofNat 70, Char.ofNat 111, Char.ofNat 108, Char.ofNat 100, Char.ofNat 84, Char.ofNat 119, Char.ofNat 105, Char.ofNat 99, Char.ofNat 101]
def w5 : List Char := [Char.ofNat 115, Char.ofNat 111, Char.ofNat 98, Char.ofNat 114, Char.ofNat 105, Char.ofNat 113, Char.ofNat 117, Char.ofNat 101, Char.ofNat 116, Char.ofNat 47, Char.ofNat 115, Char.ofNat 111, Char.ofNat 98, Char.ofNat 114, Char.ofNat 105, Char.ofNat 113, Char.ofNat 117, Char.ofNat 101, Char.ofNat 116, Char.ofNat 108, Char.ofNat 97, Char.ofNat 119, Char.ofNat 49, Char.ofNat 50, Char.ofNat 46, Char.ofNat 70, Char.ofNat 111, Char.ofNat 108, Char.ofNat 100, Char.ofNat 76, Char.ofNat 101, Char.ofNat 116, Char.ofNat 116, Char.ofNat 101, Char.ofNat 114, Char.ofNat 115]
def w6 : List Char := [Char.ofNat 115, Char.ofNat 111, Char.ofNat 98, Char.ofNat 114, Char.ofNat 105, Char.ofNat 113, Char.ofNat 117, Char.ofNat 101, Char.ofNat 116, Char.ofNat 47, Char.ofNat 115, Char.ofNat 111, Char.ofNat 98, Char.ofNat 114, Char.ofNat 105, Char.ofNat 113, Char.ofNat 117, Char.ofNat 101, Char.ofNat 116, Char.ofNat 108, Char.ofNat 97, Char.ofNat 119, Char.ofNat 49, Char.ofNat 48, Char.ofNat 46, Char.ofNat 67, Char.ofNat 111, Char.ofNat 109, Char.ofNat 112, Char.ofNat 111, Char.ofNat 115, Char.ofNat 101, Char.ofNat 84, Char.ofNat 119, Char.ofNat 111]
def w7 : List Char := [Char.ofNat 115, Char.ofNat 111, Char.ofNat 98, Char.ofNat 114, Char.ofNat 105, Char.ofNat 113, Char.ofNat 117, Char.ofNat 101, Char.ofNat 116, Char.ofNat 47, Char.ofNat 115, Char.ofNat 111, Char.ofNat 98, Char.ofNat 114, Char.ofNat 105, Char.ofNat 113, Char.ofNat 117, Char.ofNat 101, Char.ofNat 116, Char.ofNat 108, Char.ofNat 97, Char.ofNat 119, Char.ofNat 49, Char.ofNat 48, Char.ofNat 46, Char.ofNat 67, Char.ofNat 111, Char.ofNat 109, Char.ofNat 112, Char.ofNat 111, Char.ofNat 115, Char.ofNat 101, Char.ofNat 79, Char.ofNat 102, Char.ofNat 102]
def w8 : List Char := [Char.ofNat 115, Char.ofNat 111, Char.ofNat 98, Char.ofNat 114, Char.ofNat 105, Char.ofNat 113, Char.ofNat 117, Char.ofNat 101, Char.ofNat 116, Char.ofNat 47, Char.ofNat 115, Char.ofNat 111, Char.ofNat 98, Char.ofNat 114, Char.ofNat 105, Char.ofNat 113, Char.ofNat 117, Char.ofNat 101, Char.ofNat 116, Char.ofNat 108, Char.ofNat 97, Char.ofNat 119, Char.ofNat 49, Char.ofNat 50, Char.ofNat 46, Char.ofNat 70, Char.ofNat 111, Char.ofNat 108, Char.ofNat 100, Char.ofNat 69, Char.ofNat 120, Char.ofNat 97, Char.ofNat 99, Char.ofNat 116]
def w9 : List Char := [Char.ofNat 115, Char.ofNat 111, Char.ofNat 98, Char.ofNat 114, Char.ofNat 105, Char.ofNat 113, Char.ofNat 117, Char.ofNat 101, Char.ofNat 116, Char.ofNat 47, Char.ofNat 115, Char.ofNat 111, Char.ofNat 98, Char.ofNat 114, Char.ofNat 105, Char.ofNat 113, Char.ofNat 117, Char.ofNat 101, Char.ofNat 116, Char.ofNat 108, Char.ofNat 97, Char.ofNat 119, Char.ofNat 49, Char.ofNat 48, Char.ofNat 46, Char.ofNat 67, Char.ofNat 111, Char.ofNat 109, Char.ofNat 112, Char.ofNat 111, Char.ofNat 115, Char.ofNat 101, Char.ofNat 69, Char.ofNat 120, Char.ofNat 97, Char.ofNat 99, Char.ofNat 116]
def w10 : List Char := [Char.ofNat 115, Char.ofNat 111, Char.ofNat 98, Char.ofNat 114, Char.ofNat 105, Char.ofNat 113, Char.ofNat 117, Char.ofNat 101, Char.ofNat 116, Char.ofNat 47, Char.ofNat 115, Char.ofNat 111, Char.ofNat 98, Char.ofNat 114, Char.ofNat 105, Char.ofNat 113, Char.ofNat 117, Char.ofNat 101, Char.ofNat 116, Char.ofNat 108, Char.ofNat 97, Char.ofNat 119, Char.ofNat 48, Char.ofNat 57, Char.ofNat 46, Char.ofNat 79, Char.ofNat 114, Char.ofNat 100, Char.ofNat 101, Char.ofNat 114, Char.ofNat 83, Char.ofNat 116, Char.ofNat 97, Char.ofNat 121, Char.ofNat 115]
def w11 : List Char := [Char.ofNat 115, Char.ofNat 111, Char.ofNat 98, Char.ofNat 114, Char.ofNat 105, Char.ofNat 113, Char.ofNat 117, Char.ofNat 101, Char.ofNat 116, Char.ofNat 47, Char.ofNat 115, Char.ofNat 111, Char.ofNat 98, Char.ofNat 114, Char.ofNat 105, Char.ofNat 113, Char.ofNat 117, Char.ofNat 101, Char.ofNat 116, Char.ofNat 108, Char.ofNat 97, Char.ofNat 119, Char.ofNat 48, Char.ofNat 57, Char.ofNat 46, Char.ofNat 79, Char.ofNat 114, Char.ofNat 100, Char.ofNat 101, Char.ofNat 114, Char.ofNat 75, Char.ofNat 101, Char.ofNat 101, Char.ofNat 112, Char.ofNat 115]
def w12 : List Char := [Char.ofNat 115, Char.ofNat 111, Char.ofNat 98, Char.ofNat 114, Char.ofNat 105, Char.ofNat 113, Char.ofNat 117, Char.ofNat 101, Char.ofNat 116, Char.ofNat 47, Char.ofNat 115, Char.ofNat 111, Char.ofNat 98, Char.ofNat 114, Char.ofNat 105, Char.ofNat 113, Char.ofNat 117, Char.ofNat 101, Char.ofNat 116, Char.ofNat 108, Char.ofNat 97, Char.ofNat 119, Char.ofNat 48, Char.ofNat 57, Char.ofNat 46, Char.ofNat 79, Char.ofNat 114, Char.ofNat 100, Char.ofNat 101, Char.ofNat 114, Char.ofNat 80, Char.ofNat 97, Char.ofNat 114, Char.ofNat 116, Char.ofNat 115]
def w13 : List Char := [Char.ofNat 115, Char.ofNat 111, Char.ofNat 98, Char.ofNat 114, Char.ofNat 105, Char.ofNat 113, Char.ofNat 117, Char.ofNat 101, Char.ofNat 116, Char.ofNat 47, Char.ofNat 115, Char.ofNat 111, Char.ofNat 98, Char.ofNat 114, Char.ofNat 105, Char.ofNat 113, Char.ofNat 117, Char.ofNat 101, Char.ofNat 116, Char.ofNat 108, Char.ofNat 97, Char.ofNat 119, Char.ofNat 48, Char.ofNat 57, Char.ofNat 46, Char.ofNat 79, Char.ofNat 114, Char.ofNat 100, Char.ofNat 101, Char.ofNat 114, Char.ofNat 69, Char.ofNat 120, Char.ofNat 97, Char.ofNat 99, Char.ofNat 116]
def w14 : List Char := [Char.ofNat 115, Char.ofNat 111, Char.ofNat 98, Char.ofNat 114, Char.ofNat 105, Char.ofNat 113, Char.ofNat 117, Char.ofNat 101, Char.ofNat 116, Char.ofNat 47, Char.ofNat 115, Char.ofNat 111, Char.ofNat 98, Char.ofNat 114, Char.ofNat 105, Char.ofNat 113, Char.ofNat 117, Char.ofNat 101, Char.ofNat 116, Char.ofNat 108, Char.ofNat 97, Char.ofNat 119, Char.ofNat 49, Char.ofNat 48, Char.ofNat 46, Char.ofNat 67, Char.ofNat 111, Char.ofNat 109, Char.ofNat 112, Char.ofNat 111, Char.ofNat 115, Char.ofNat 101, Char.ofNat 76, Char.ofNat 101, Char.ofNat 115, Char.ofNat 115]
def w15 : List Char := [Char.ofNat 115, Char.ofNat 111, Char.ofNat 98, Char.ofNat 114, Char.ofNat 105, Char.ofNat 113, Char.ofNat 117, Char.ofNat 101, Char.ofNat 116, Char.ofNat 47, Char.ofNat 115, Char.ofNat 111, Char.ofNat 98, Char.ofNat 114, Char.ofNat 105, Char.ofNat 113, Char.ofNat 117, Char.ofNat 101, Char.ofNat 116, Char.ofNat 108, Char.ofNat 97, Char.ofNat 119, Char.ofNat 49, Char.ofNat 50, Char.ofNat 46, Char.ofNat 70, Char.ofNat 111, Char.ofNat 108, Char.ofNat 100, Char.ofNat 77, Char.ofNat 97, Char.ofNat 114, Char.ofNat 107, Char.ofNat 115]
def w16 : List Char := [Char.ofNat 115, Char.ofNat 111, Char.ofNat 98, Char.ofNat 114, Char.ofNat 105, Char.ofNat 113, Char.ofNat 117, Char.ofNat 101, Char.ofNat 116, Char.ofNat 47, Char.ofNat 115, Char.ofNat 111, Char.ofNat 98, Char.ofNat 114, Char.ofNat 105, Char.ofNat 113, Char.ofNat 117, Char.ofNat 101, Char.ofNat 116, Char.ofNat 108, Char.ofNat 97, Char.ofNat 119, Char.ofNat 49, Char.ofNat 49, Char.ofNat 46, Char.ofNat 78, Char.ofNat 111, Char.ofNat 114, Char.ofNat 109, Char.ofNat 84, Char.ofNat 119, Char.ofNat 105, Char.ofNat 99, Char.ofNat 101]
def w17 : List Char := [Char.ofNat 115, Char.ofNat 111, Char.ofNat 98, Char.ofNat 114, Char.ofNat 105, Char.ofNat 113, Char.ofNat 117, Char.ofNat 101, Char.ofNat 116, Char.ofNat 47, Char.ofNat 115, Char.ofNat 111, Char.ofNat 98, Char.ofNat 114, Char.ofNat 105, Char.ofNat 113, Char.ofNat 117, Char.ofNat 101, Char.ofNat 116, Char.ofNat 108, Char.ofNat 97, Char.ofNat 119, Char.ofNat 49, Char.ofNat 49, Char.ofNat 46, Char.ofNat 78, Char.ofNat 111, Char.ofNat 114, Char.ofNat 109, Char.ofNat 81, Char.ofNat 117, Char.ofNat 105, Char.ofNat 99, Char.ofNat 107]
def w18 : List Char := [Char.ofNat 115, Char.ofNat 111, Char.ofNat 98, Char.ofNat 114, Char.ofNat 105, Char.ofNat 113, Char.ofNat 117, Char.ofNat 101, Char.ofNat 116, Char.ofNat 47, Char.ofNat 115, Char.ofNat 111, Char.ofNat 98, Char.ofNat 114, Char.ofNat 105, Char.ofNat 113, Char.ofNat 117, Char.ofNat 101, Char.ofNat 116, Char.ofNat 108, Char.ofNat 97, Char.ofNat 119, Char.ofNat 49, Char.ofNat 49, Char.ofNat 46, Char.ofNat 78, Char.ofNat 111, Char.ofNat 114, Char.ofNat 109, Char.ofNat 83, Char.ofNat 97, Char.ofNat 109, Char.ofNat 101]
def w19 : List Char := [Char.ofNat 115, Char.ofNat 111, Char.ofNat 98, Char.ofNat 114, Char.ofNat 105, Char.ofNat 113, Char.ofNat 117, Char.ofNat 101, Char.ofNat 116, Char.ofNat 47, Char.ofNat 115, Char.ofNat 111, Char.ofNat 98, Char.ofNat 114, Char.ofNat 105, Char.ofNat 113, Char.ofNat 117, Char.ofNat 101, Char.ofNat 116, Char.ofNat 108, Char.ofNat 97, Char.ofNat 119, Char.ofNat 49, Char.ofNat 49, Char.ofNat 46, Char.ofNat 78, Char.ofNat 111, Char.ofNat 114, Char.ofNat 109, Char.ofNat 67, Char.ofNat 104, Char.ofNat 97, Char.ofNat 105, Char.ofNat 110]
def w20 : List Char := [Char.ofNat 115, Char.ofNat 111, Char.ofNat 98, Char.ofNat 114, Char.ofNat 105, Char.ofNat 113, Char.ofNat 117, Char.ofNat 101, Char.ofNat 116, Char.ofNat 47, Char.ofNat 115, Char.ofNat 111, Char.ofNat 98, Char.ofNat 114, Char.ofNat 105, Char.ofNat 113, Char.ofNat 117, Char.ofNat 101, Char.ofNat 116, Char.ofNat 108, Char.ofNat 97, Char.ofNat 119, Char.ofNat 49, Char.ofNat 49, Char.ofNat 46, Char.ofNat 78, Char.ofNat 111, Char.ofNat 114, Char.ofNat 109, Char.ofNat 83, Char.ofNat 99, Char.ofNat 97, Char.ofNat 108, Char.ofNat 97, Char.ofNat 114, Char.ofNat 115]
def w21 : List Char := [Char.ofNat 115, Char.ofNat 111, Char.ofNat 98, Char.ofNat 114, Char.ofNat 105, Char.ofNat 113, Char.ofNat 117, Char.ofNat 101, Char.ofNat 116, Char.ofNat 47, Char.ofNat 115, Char.ofNat 111, Char.ofNat 98, Char.ofNat 114, Char.ofNat 105, Char.ofNat 113, Char.ofNat 117, Char.ofNat 101, Char.ofNat 116, Char.ofNat 108, Char.ofNat 97, Char.ofNat 119, Char.ofNat 49, Char.ofNat 49, Char.ofNat 46, Char.ofNat 78, Char.ofNat 111, Char.ofNat 114, Char.ofNat 109, Char.ofNat 72, Char.ofNat 97, Char.ofNat 110, Char.ofNat 103, Char.ofNat 117, Char.ofNat 108]
def w22 : List Char := [Char.ofNat 115, Char.ofNat 111, Char.ofNat 98, Char.ofNat 114, Char.ofNat 105, Char.ofNat 113, Char.ofNat 117, Char.ofNat 101, Char.ofNat 116, Char.ofNat 47, Char.ofNat 115, Char.ofNat 111, Char.ofNat 98, Char.ofNat 114, Char.ofNat 105, Char.ofNat 113, Char.ofNat 117, Char.ofNat 101, Char.ofNat 116, Char.ofNat 108, Char.ofNat 97, Char.ofNat 119, Char.ofNat 49, Char.ofNat 49, Char.ofNat 46, Char.ofNat 78, Char.ofNat 111, Char.ofNat 114, Char.ofNat 109, Char.ofNat 69, Char.ofNat 120, Char.ofNat 97, Char.ofNat 99, Char.ofNat 116]
def w23 : List Char := [Char.ofNat 115, Char.ofNat 111, Char.ofNat 98, Char.ofNat 114, Char.ofNat 105, Char.ofNat 113, Char.ofNat 117, Char.ofNat 101, Char.ofNat 116, Char.ofNat 47, Char.ofNat 115, Char.ofNat 111, Char.ofNat 98, Char.ofNat 114, Char.ofNat 105, Char.ofNat 113, Char.ofNat 117, Char.ofNat 101, Char.ofNat 116, Char.ofNat 108, Char.ofNat 97, Char.ofNat 119, Char.ofNat 50, Char.ofNat 49, Char.ofNat 46, Char.ofNat 80, Char.ofNat 114, Char.ofNat 101, Char.ofNat 112, Char.ofNat 83, Char.ofNat 116, Char.ofNat 101, Char.ofNat 112, Char.ofNat 115]
def w24 : List Char := [Char.ofNat 115, Char.ofNat 111, Char.ofNat 98, Char.ofNat 114, Char.ofNat 105, Char.ofNat 113, Char.ofNat 117, Char.ofNat 101, Char.ofNat 116, Char.ofNat 47, Char.ofNat 115, Char.ofNat 111, Char.ofNat 98, Char.ofNat 114, Char.ofNat 105, Char.ofNat 113, Char.ofNat 117, Char.ofNat 101, Char.ofNat 116, Char.ofNat 108, Char.ofNat 97, Char.ofNat 119, Char.ofNat 50, Char.ofNat 49, Char.ofNat 46, Char.ofNat 80, Char.ofNat 114, Char.ofNat 101, Char.ofNat 112, Char.ofNat 78, Char.ofNat 101, Char.ofNat 118, Char.ofNat 101, Char.ofNat 114]
def w25 : List Char := [Char.ofNat 115, Char.ofNat 111, Char.ofNat 98, Char.ofNat 114, Char.ofNat 105, Char.ofNat 113, Char.ofNat 117, Char.ofNat 101, Char.ofNat 116, Char.ofNat 47, Char.ofNat 115, Char.ofNat 111, Char.ofNat 98, Char.ofNat 114, Char.ofNat 105, Char.ofNat 113, Char.ofNat 117, Char.ofNat 101, Char.ofNat 116, Char.ofNat 108, Char.ofNat 97, Char.ofNat 119, Char.ofNat 50, Char.ofNat 49, Char.ofNat 46, Char.ofNat 80, Char.ofNat 114, Char.ofNat 101, Char.ofNat 112, Char.ofNat 67, Char.ofNat 97, Char.ofNat 115, Char.ofNat 101]
def w26 : List Char := [Char.ofNat 115, Char.ofNat 111, Char.ofNat 98, Char.ofNat 114, Char.ofNat 105, Char.ofNat 113, Char.ofNat 117, Char.ofNat 101, Char.ofNat 116, Char.ofNat 47, Char.ofNat 115, Char.ofNat 111, Char.ofNat 98, Char.ofNat 114, Char.ofNat 105, Char.ofNat 113, Char.ofNat 117, Char.ofNat 101, Char.ofNat 116, Char.ofNat 108, Char.ofNat 97, Char.ofNat 119, Char.ofNat 50, Char.ofNat 49, Char.ofNat 46, Char.ofNat 80, Char.ofNat 114, Char.ofNat 101, Char.ofNat 112, Char.ofNat 83, Char.ofNat 112, Char.ofNat 97, Char.ofNat 99, Char.ofNat 101, Char.ofNat 115]

theorem lit_eq : "harness defb8bb873570078d7c7d49f6f6fcb8d7776083b85a0884bb11d07588f7ba228 cut at sobriquet/sobriquetlaw12.FoldTwice sobriquet/sobriquetlaw12.FoldLetters sobriquet/sobriquetlaw10.ComposeTwo sobriquet/sobriquetlaw10.ComposeOff sobriquet/sobriquetlaw12.FoldExact sobriquet/sobriquetlaw10.ComposeExact sobriquet/sobriquetlaw09.OrderStays sobriquet/sobriquetlaw09.OrderKeeps sobriquet/sobriquetlaw09.OrderParts sobriquet/sobriquetlaw09.OrderExact sobriquet/sobriquetlaw10.ComposeLess sobriquet/sobriquetlaw12.FoldMarks sobriquet/sobriquetlaw11.NormTwice sobriquet/sobriquetlaw11.NormQuick sobriquet/sobriquetlaw11.NormSame sobriquet/sobriquetlaw11.NormChain sobriquet/sobriquetlaw11.NormScalars sobriquet/sobriquetlaw11.NormHangul sobriquet/sobriquetlaw11.NormExact sobriquet/sobriquetlaw21.PrepSteps sobriquet/sobriquetlaw21.PrepNever sobriquet/sobriquetlaw21.PrepCase sobriquet/sobriquetlaw21.PrepSpaces" = String.ofList (w0 ++ Char.ofNat 32 :: (w1 ++ Char.ofNat 32 :: (w2 ++ Char.ofNat 32 :: (w3 ++ Char.ofNat 32 :: (w4 ++ Char.ofNat 32 :: (w5 ++ Char.ofNat 32 :: (w6 ++ Char.ofNat 32 :: (w7 ++ Char.ofNat 32 :: (w8 ++ Char.ofNat 32 :: (w9 ++ Char.ofNat 32 :: (w10 ++ Char.ofNat 32 :: (w11 ++ Char.ofNat 32 :: (w12 ++ Char.ofNat 32 :: (w13 ++ Char.ofNat 32 :: (w14 ++ Char.ofNat 32 :: (w15 ++ Char.ofNat 32 :: (w16 ++ Char.ofNat 32 :: (w17 ++ Char.ofNat 32 :: (w18 ++ Char.ofNat 32 :: (w19 ++ Char.ofNat 32 :: (w20 ++ Char.ofNat 32 :: (w21 ++ Char.ofNat 32 :: (w22 ++ Char.ofNat 32 :: (w23 ++ Char.ofNat 32 :: (w24 ++ Char.ofNat 32 :: (w25 ++ Char.ofNat 32 :: (w26))))))))))))))))))))))))))) := rfl
theorem order_eq : Try.prog.initOrder = "harness defb8bb873570078d7c7d49f6f6fcb8d7776083b85a0884bb11d07588f7ba228 cut at sobriquet/sobriquetlaw12.FoldTwice sobriquet/sobriquetlaw12.FoldLetters sobriquet/sobriquetlaw10.ComposeTwo sobriquet/sobriquetlaw10.ComposeOff sobriquet/sobriquetlaw12.FoldExact sobriquet/sobriquetlaw10.ComposeExact sobriquet/sobriquetlaw09.OrderStays sobriquet/sobriquetlaw09.OrderKeeps sobriquet/sobriquetlaw09.OrderParts sobriquet/sobriquetlaw09.OrderExact sobriquet/sobriquetlaw10.ComposeLess sobriquet/sobriquetlaw12.FoldMarks sobriquet/sobriquetlaw11.NormTwice sobriquet/sobriquetlaw11.NormQuick sobriquet/sobriquetlaw11.NormSame sobriquet/sobriquetlaw11.NormChain sobriquet/sobriquetlaw11.NormScalars sobriquet/sobriquetlaw11.NormHangul sobriquet/sobriquetlaw11.NormExact sobriquet/sobriquetlaw21.PrepSteps sobriquet/sobriquetlaw21.PrepNever sobriquet/sobriquetlaw21.PrepCase sobriquet/sobriquetlaw21.PrepSpaces" := by kernel_rfl
theorem words : wordsSigns Try.prog.initOrder.toList = [w0, w1, w2, w3, w4, w5, w6, w7, w8, w9, w10, w11, w12, w13, w14, w15, w16, w17, w18, w19, w20, w21, w22, w23, w24, w25, w26] := by
  rw [order_eq, lit_eq, String.toList_ofList]
  rw [words_cons w0 _ (by decide +kernel)]
  rw [words_cons w1 _ (by decide +kernel)]
  rw [words_cons w2 _ (by decide +kernel)]
  rw [words_cons w3 _ (by decide +kernel)]
  rw [words_cons w4 _ (by decide +kernel)]
  rw [words_cons w5 _ (by decide +kernel)]
  rw [words_cons w6 _ (by decide +kernel)]
  rw [words_cons w7 _ (by decide +kernel)]
  rw [words_cons w8 _ (by decide +kernel)]
  rw [words_cons w9 _ (by decide +kernel)]
  rw [words_cons w10 _ (by decide +kernel)]
  rw [words_cons w11 _ (by decide +kernel)]
  rw [words_cons w12 _ (by decide +kernel)]
  rw [words_cons w13 _ (by decide +kernel)]
  rw [words_cons w14 _ (by decide +kernel)]
  rw [words_cons w15 _ (by decide +kernel)]
  rw [words_cons w16 _ (by decide +kernel)]
  rw [words_cons w17 _ (by decide +kernel)]
  rw [words_cons w18 _ (by decide +kernel)]
  rw [words_cons w19 _ (by decide +kernel)]
  rw [words_cons w20 _ (by decide +kernel)]
  rw [words_cons w21 _ (by decide +kernel)]
  rw [words_cons w22 _ (by decide +kernel)]
  rw [words_cons w23 _ (by decide +kernel)]
  rw [words_cons w24 _ (by decide +kernel)]
  rw [words_cons w25 _ (by decide +kernel)]
  rw [words_last w26 (by decide +kernel)]
theorem behind : behindMainWord [w0, w1, w2, w3, w4, w5, w6, w7, w8, w9, w10, w11, w12, w13, w14, w15, w16, w17, w18, w19, w20, w21, w22, w23, w24, w25, w26] = "cut".toList :: [w3, w4, w5, w6, w7, w8, w9, w10, w11, w12, w13, w14, w15, w16, w17, w18, w19, w20, w21, w22, w23, w24, w25, w26] := by
  kernel_rfl
theorem strip (l : List (List Char)) : stripLifts liftWords ("cut".toList :: l) = ([], "cut".toList :: l) := rfl
theorem make_of (P : Program) (ws l : List (List Char)) (h : wordsSigns P.initOrder.toList = ws) (b : behindMainWord ws = "cut".toList :: l) : P.make = some .cut := by
  unfold Program.make
  rw [h, b]
  rfl
theorem may_of (P : Program) (ws l : List (List Char)) (h : wordsSigns P.initOrder.toList = ws) (b : behindMainWord ws = "cut".toList :: l) (h1 : P.laysLater = false) (h2 : P.bearsReflect = false) (h3 : P.doorFits [] = true) : P.mayEnter = true := by
  unfold Program.mayEnter
  rw [h, b]
  show (_ || (((stripLifts liftWords ("cut".toList :: l)).2.head? == some "cut".toList &&
      ((stripLifts liftWords ("cut".toList :: l)).1.contains "finals" || !P.laysLater) && ((stripLifts liftWords ("cut".toList :: l)).1.contains "reflectrows" || !P.bearsReflect) &&
      ((stripLifts liftWords ("cut".toList :: l)).1.contains "reflectrows" || !(stripLifts liftWords ("cut".toList :: l)).1.contains "leanrows") &&
      P.doorFits (stripLifts liftWords ("cut".toList :: l)).1))) = true
  rw [strip, h1, h2, h3]
  simp
theorem lifts_of (P : Program) (ws l : List (List Char)) (h : wordsSigns P.initOrder.toList = ws) (b : behindMainWord ws = "cut".toList :: l) : P.liftsFinal = false := by
  unfold Program.liftsFinal Program.headLifts
  rw [h, b, strip]
  rfl
theorem later : Try.prog.laysLater = false := by kernel_rfl
theorem reflects : Try.prog.bearsReflect = false := by kernel_rfl
theorem doors : Try.prog.doorFits [] = true := by kernel_rfl
theorem may : Try.prog.mayEnter = true := may_of _ _ _ words behind later reflects doors
theorem lifts : Try.prog.liftsFinal = false := lifts_of _ _ _ words behind
theorem make : Try.prog.make = some .cut := make_of _ _ _ words behind
theorem laid : laidOutB Try.prog = true := by kernel_rfl
theorem rowed : mapsRowed Try.prog = true := by kernel_rfl
theorem stops : (Try.prog.stops == []) = true := by kernel_rfl
theorem knobs : (Try.prog.stopKnobs == []) = true := by kernel_rfl
theorem plainKeys : Try.prog.plainKeys = true := by kernel_rfl
theorem heard : Try.prog.stopsHeard = true := by kernel_rfl

end Go.Proofs.Ytjolmhokeceljaa.Head
