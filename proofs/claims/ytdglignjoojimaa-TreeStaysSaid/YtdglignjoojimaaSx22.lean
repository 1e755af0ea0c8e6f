/- A part of a thing in a slice: read and written. No conditions. -/
import Derived.Test.YtdglignjoojimaaSx21
set_option linter.unusedVariables false
set_option linter.unusedSimpArgs false
namespace Go.Proofs.Ytdglignjoojimaa
section
variable {α : Type} {en : α → List Value} {sz : Nat}
theorem part_cut (E : Enc en sz) {l : List α} {i : Nat} (hi : i < l.length) {a : α} (hl : l[i]? = some a) {pre post : List Value} {x : Value} (h1 : en a = pre ++ x :: post) (sp : List Value) :
    l.flatMap en ++ sp = ((l.take i).flatMap en ++ pre) ++ ([x] ++ (post ++ ((l.drop (i + 1)).flatMap en ++ sp))) := by
  have e : l[i] = a := by rw [List.getElem?_eq_getElem hi] at hl; exact Option.some.inj hl
  have h0 : l = l.take i ++ l[i] :: l.drop (i + 1) := by rw [← List.drop_eq_getElem_cons hi, List.take_append_drop]
  conv => lhs; rw [h0, List.flatMap_append, List.flatMap_cons, e, h1]
  simp
theorem part_at (E : Enc en sz) {l : List α} {i o : Nat} {a : α} (hl : l[i]? = some a) {pre post : List Value} {x : Value} (h1 : en a = pre ++ x :: post) (ho : pre.length = o) (sp : List Value) :
    (l.flatMap en ++ sp)[0 + i * sz + o]? = some x := by
  have hi : i < l.length := (List.getElem?_eq_some_iff.1 hl).1
  rw [part_cut E hi hl h1 sp]
  have e : ((l.take i).flatMap en ++ pre).length = 0 + i * sz + o := by
    rw [List.length_append, E.flat_len, List.length_take, Nat.min_eq_left (by omega), ho]; omega
  rw [List.getElem?_append_right (by omega), e]
  simp
theorem PutR.part (E : Enc en sz) {l : List α} {i o : Nat} {a a' : α} (hl : l[i]? = some a) {pre post : List Value} {x x' : Value} (h1 : en a = pre ++ x :: post) (h2 : en a' = pre ++ x' :: post) (ho : pre.length = o) (sp : List Value) :
    PutR (l.flatMap en ++ sp) (0 + i * sz + o) [x'] ((l.set i a').flatMap en ++ sp) := by
  have hi : i < l.length := (List.getElem?_eq_some_iff.1 hl).1
  have e : ((l.take i).flatMap en ++ pre).length = 0 + i * sz + o := by
    rw [List.length_append, E.flat_len, List.length_take, Nat.min_eq_left (by omega), ho]; omega
  have hp : putAt (l.flatMap en ++ sp) (0 + i * sz + o) [x'] = (l.set i a').flatMap en ++ sp := by
    rw [part_cut E hi hl h1 sp, putAt_mid e (show [x'].length = [x].length from rfl), List.set_eq_take_append_cons_drop, if_pos hi, List.flatMap_append, List.flatMap_cons, h2]
    simp
  rw [← hp]
  refine PutR.at_ ?_
  rw [part_cut E hi hl h1 sp, List.length_append, e]
  simp
end
theorem set_mid {α : Type} {A B : List α} {a a' : α} {n : Nat} (h : A.length = n) : (A ++ a :: B).set n a' = A ++ a' :: B := by
  subst h; simp
theorem get_mid {α : Type} {A B : List α} {a : α} {n : Nat} (h : A.length = n) : (A ++ a :: B)[n]? = some a := by
  subst h; simp
end Go.Proofs.Ytdglignjoojimaa
