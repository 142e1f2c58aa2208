/- Lists of words: the program's areWords and the reference's test return what the plain function says. Condition: lengths that a machine can hold. -/
import Derived.Test.YtelppggliieniaaDoorWordB
import Derived.Test.YtelppggliieniaaDoorStrs
namespace Go.Proofs.YtelppggliieniaaDoor
open Go.RowKit
theorem ret_bool {a b : Bool} (h : a = b) : Ending.returned (.bool a) = .returned (.bool b) := by rw [h]
def wordB (x : List UInt8) : Bool := smallB x 20
theorem word_len {x : List UInt8} (h : wordB x = true) : x.length ≤ 20 := by
  unfold wordB smallB at h
  simp only [Bool.and_eq_true, decide_eq_true_eq] at h
  omega
theorem word_len40 {x : List UInt8} (h : wordB x = true) : x.length ≤ 40 := Nat.le_trans (word_len h) (by omega)
theorem word_pos {x : List UInt8} (h : wordB x = true) : 0 < x.length := by
  unfold wordB smallB at h
  simp only [Bool.and_eq_true, decide_eq_true_eq] at h
  omega
theorem all_take {p : List UInt8 → Bool} (l : List (List UInt8)) (k : Nat) (h : k < l.length) : (l.take (k + 1)).all p = ((l.take k).all p && p (l.getD k [])) := by
  rw [List.take_succ_eq_append_getElem h, List.all_append, List.getD_eq_getElem?_getD, List.getElem?_eq_getElem h]; simp
theorem all_no {p : List UInt8 → Bool} (l : List (List UInt8)) (k : Nat) (h : k < l.length) (hp : p (l.getD k []) = false) : l.all p = false := by
  rw [← List.take_append_drop (k + 1) l, List.all_append, all_take l k h, hp, Bool.and_false, Bool.false_and]
end Go.Proofs.YtelppggliieniaaDoor
