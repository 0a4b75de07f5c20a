/- What each kind of node asks. -/
import Derived.Test.YtcpjplkbmflglaaB1
namespace Go.Proofs.Ytcpjplkbmflglaa
open Go.RowKit
attribute [local go_sem] run_store_float
set_option linter.unusedVariables false
def ok1 (ns : List Nd) (a : Nat) (n : Nd) : Bool := kidsAll isStat ns a 0 n.kids.length && bareB n false false false false 0
def ok2 (ns : List Nd) (a : Nat) (n : Nd) : Bool := decide (0 < n.refs.length) && (bareB n false false false false n.refs.length && kidsAll isExpr ns a 0 n.kids.length)
def ok3 (ns : List Nd) (a : Nat) (n : Nd) : Bool := decide (1 ≤ n.num ∧ n.num < n.kids.length) && (kidsAll isTgt ns a 0 n.num.toNat && (bareB n false true false false 0 && kidsAll isExpr ns a n.num.toNat (n.kids.length - n.num.toNat)))
def ok4 (ns : List Nd) (a : Nat) (n : Nd) : Bool := decide (n.kids.length = 1) && (kidK ns a 0 == 34 && bareB n false false false false 0)
def ok5 (ns : List Nd) (a : Nat) (n : Nd) : Bool := (decide (n.kids.length = 2) || decide (n.kids.length = 3) && (kidK ns a 2 == 1 || kidK ns a 2 == 5)) && (isExpr (kidK ns a 0) && (kidK ns a 1 == 1 && bareB n false false false false 0))
def ok6 (ns : List Nd) (a : Nat) (n : Nd) : Bool := decide (n.kids.length = 2) && (isExpr (kidK ns a 0) && (kidK ns a 1 == 1 && bareB n false false false false 0))
def ok7 (ns : List Nd) (a : Nat) (n : Nd) : Bool := decide (n.kids.length = 4) && (kidsAll isExpr ns a 0 3 && (kidK ns a 3 == 1 && bareB n false false false false 1))
def ok8 (ns : List Nd) (a : Nat) (n : Nd) : Bool := decide (n.kids.length = 2) && (decide (1 ≤ n.refs.length ∧ n.refs.length ≤ 4) && (isExpr (kidK ns a 0) && (kidK ns a 1 == 1 && bareB n false false false false n.refs.length)))
def ok9 (ns : List Nd) (a : Nat) (n : Nd) : Bool := decide (n.kids.length = 0) && bareB n false false false false 0
def ok11 (ns : List Nd) (a : Nat) (n : Nd) : Bool := kidsAll isExpr ns a 0 n.kids.length && bareB n false false false false 0
def ok12 (ns : List Nd) (a : Nat) (n : Nd) : Bool := decide (n.kids.length = 2) && (kidK ns a 0 == 1 && (kidK ns a 1 == 1 && bareB n false false false false 2))
def ok13 (ns : List Nd) (a : Nat) (n : Nd) : Bool := decide (n.kids.length = 1) && (isExpr (kidK ns a 0) && bareB n false false false false 0)
def ok20 (ns : List Nd) (a : Nat) (n : Nd) : Bool := decide (n.kids.length = 0) && bareB n false false false false 0
def ok23 (ns : List Nd) (a : Nat) (n : Nd) : Bool := decide (n.kids.length = 0) && bareB n false true false false 0
def ok24 (ns : List Nd) (a : Nat) (n : Nd) : Bool := decide (n.kids.length = 0) && ((FloatKind.f64.format.order n.flt n.flt == some .eq) && bareB n false false true false 0)
def ok25 (ns : List Nd) (a : Nat) (n : Nd) : Bool := decide (n.kids.length = 0) && (decide (n.str.size ≤ 4000) && bareB n false false false true 0)
def ok26 (ns : List Nd) (a : Nat) (n : Nd) : Bool := decide (n.kids.length = 0) && bareB n false false false false 1
def ok28 (ns : List Nd) (a : Nat) (n : Nd) : Bool := decide (n.kids.length = 0) && (decide (0 ≤ n.num ∧ n.num < 15) && bareB n false true false false 0)
def ok29 (ns : List Nd) (a : Nat) (n : Nd) : Bool := decide (n.kids.length = 2) && (kidsAll isExpr ns a 0 n.kids.length && bareB n false false false false 0)
def ok31 (ns : List Nd) (a : Nat) (n : Nd) : Bool := decide (n.kids.length = 1) && (kidsAll isExpr ns a 0 n.kids.length && (decide (19 ≤ n.op ∧ n.op ≤ 22) && bareB n true false false false 0))
def ok32 (ns : List Nd) (a : Nat) (n : Nd) : Bool := decide (n.kids.length = 2) && (kidsAll isExpr ns a 0 n.kids.length && (decide (1 ≤ n.op ∧ n.op ≤ 18) && bareB n true false false false 0))
def ok34 (ns : List Nd) (a : Nat) (n : Nd) : Bool := decide (1 ≤ n.kids.length) && (kidsAll isExpr ns a 0 n.kids.length && bareB n false false false false 0)
def ok35 (ns : List Nd) (a : Nat) (n : Nd) : Bool := decide (n.kids.length % 2 = 0) && (kidsAll isExpr ns a 0 n.kids.length && ((n.op == 0 || n.op == 1 && (decide (2 ≤ n.kids.length) && (kidK ns a (n.kids.length - 2) == 23 && isMany (kidK ns a (n.kids.length - 1))))) && bareB n true false false false 0))
def ok38 (ns : List Nd) (a : Nat) (n : Nd) : Bool := decide (n.kids.length = 1) && (isMany (kidK ns a 0) && bareB n false false false false 0)
/-- The shape of node a, but for its line and where its kids lie. -/
def okB (ns : List Nd) (a : Nat) (n : Nd) : Bool :=
  if n.kind = 1 then ok1 ns a n
  else if n.kind = 2 then ok2 ns a n
  else if n.kind = 3 then ok3 ns a n
  else if n.kind = 4 then ok4 ns a n
  else if n.kind = 5 then ok5 ns a n
  else if n.kind = 6 then ok6 ns a n
  else if n.kind = 7 then ok7 ns a n
  else if n.kind = 8 then ok8 ns a n
  else if n.kind = 9 then ok9 ns a n
  else if n.kind = 10 then ok9 ns a n
  else if n.kind = 11 then ok11 ns a n
  else if n.kind = 12 then ok12 ns a n
  else if n.kind = 13 then ok13 ns a n
  else if n.kind = 14 then ok4 ns a n
  else if n.kind = 20 then ok20 ns a n
  else if n.kind = 21 then ok20 ns a n
  else if n.kind = 22 then ok20 ns a n
  else if n.kind = 23 then ok23 ns a n
  else if n.kind = 24 then ok24 ns a n
  else if n.kind = 25 then ok25 ns a n
  else if n.kind = 26 then ok26 ns a n
  else if n.kind = 27 then ok26 ns a n
  else if n.kind = 28 then ok28 ns a n
  else if n.kind = 29 then ok29 ns a n
  else if n.kind = 30 then ok29 ns a n
  else if n.kind = 31 then ok31 ns a n
  else if n.kind = 32 then ok32 ns a n
  else if n.kind = 33 then ok29 ns a n
  else if n.kind = 34 then ok34 ns a n
  else if n.kind = 35 then ok35 ns a n
  else if n.kind = 36 then ok26 ns a n
  else if n.kind = 37 then ok20 ns a n
  else if n.kind = 38 then ok38 ns a n
  else false
/-- A node of no known kind. -/
def odd (k : Int) : Prop := isStat k = false ∧ isExpr k = false
theorem okB_odd (ns : List Nd) (a : Nat) (n : Nd) (h : isStat n.kind = false) (h' : isExpr n.kind = false) : okB ns a n = false := by
  unfold isStat at h
  unfold isExpr at h'
  have h1 := of_decide_eq_false h
  have h2 := of_decide_eq_false h'
  unfold okB
  rw [if_neg (show ¬ n.kind = 1 by omega)]
  rw [if_neg (show ¬ n.kind = 2 by omega)]
  rw [if_neg (show ¬ n.kind = 3 by omega)]
  rw [if_neg (show ¬ n.kind = 4 by omega)]
  rw [if_neg (show ¬ n.kind = 5 by omega)]
  rw [if_neg (show ¬ n.kind = 6 by omega)]
  rw [if_neg (show ¬ n.kind = 7 by omega)]
  rw [if_neg (show ¬ n.kind = 8 by omega)]
  rw [if_neg (show ¬ n.kind = 9 by omega)]
  rw [if_neg (show ¬ n.kind = 10 by omega)]
  rw [if_neg (show ¬ n.kind = 11 by omega)]
  rw [if_neg (show ¬ n.kind = 12 by omega)]
  rw [if_neg (show ¬ n.kind = 13 by omega)]
  rw [if_neg (show ¬ n.kind = 14 by omega)]
  rw [if_neg (show ¬ n.kind = 20 by omega)]
  rw [if_neg (show ¬ n.kind = 21 by omega)]
  rw [if_neg (show ¬ n.kind = 22 by omega)]
  rw [if_neg (show ¬ n.kind = 23 by omega)]
  rw [if_neg (show ¬ n.kind = 24 by omega)]
  rw [if_neg (show ¬ n.kind = 25 by omega)]
  rw [if_neg (show ¬ n.kind = 26 by omega)]
  rw [if_neg (show ¬ n.kind = 27 by omega)]
  rw [if_neg (show ¬ n.kind = 28 by omega)]
  rw [if_neg (show ¬ n.kind = 29 by omega)]
  rw [if_neg (show ¬ n.kind = 30 by omega)]
  rw [if_neg (show ¬ n.kind = 31 by omega)]
  rw [if_neg (show ¬ n.kind = 32 by omega)]
  rw [if_neg (show ¬ n.kind = 33 by omega)]
  rw [if_neg (show ¬ n.kind = 34 by omega)]
  rw [if_neg (show ¬ n.kind = 35 by omega)]
  rw [if_neg (show ¬ n.kind = 36 by omega)]
  rw [if_neg (show ¬ n.kind = 37 by omega)]
  rw [if_neg (show ¬ n.kind = 38 by omega)]
theorem okB_1 (ns : List Nd) (a : Nat) (n : Nd) (h : n.kind = 1) : okB ns a n = ok1 ns a n := by
  unfold okB
  rw [if_pos h]
theorem okB_2 (ns : List Nd) (a : Nat) (n : Nd) (h : n.kind = 2) : okB ns a n = ok2 ns a n := by
  unfold okB
  rw [if_neg (show ¬ n.kind = 1 by omega)]
  rw [if_pos h]
theorem okB_3 (ns : List Nd) (a : Nat) (n : Nd) (h : n.kind = 3) : okB ns a n = ok3 ns a n := by
  unfold okB
  rw [if_neg (show ¬ n.kind = 1 by omega)]
  rw [if_neg (show ¬ n.kind = 2 by omega)]
  rw [if_pos h]
theorem okB_4 (ns : List Nd) (a : Nat) (n : Nd) (h : n.kind = 4) : okB ns a n = ok4 ns a n := by
  unfold okB
  rw [if_neg (show ¬ n.kind = 1 by omega)]
  rw [if_neg (show ¬ n.kind = 2 by omega)]
  rw [if_neg (show ¬ n.kind = 3 by omega)]
  rw [if_pos h]
theorem okB_5 (ns : List Nd) (a : Nat) (n : Nd) (h : n.kind = 5) : okB ns a n = ok5 ns a n := by
  unfold okB
  rw [if_neg (show ¬ n.kind = 1 by omega)]
  rw [if_neg (show ¬ n.kind = 2 by omega)]
  rw [if_neg (show ¬ n.kind = 3 by omega)]
  rw [if_neg (show ¬ n.kind = 4 by omega)]
  rw [if_pos h]
theorem okB_6 (ns : List Nd) (a : Nat) (n : Nd) (h : n.kind = 6) : okB ns a n = ok6 ns a n := by
  unfold okB
  rw [if_neg (show ¬ n.kind = 1 by omega)]
  rw [if_neg (show ¬ n.kind = 2 by omega)]
  rw [if_neg (show ¬ n.kind = 3 by omega)]
  rw [if_neg (show ¬ n.kind = 4 by omega)]
  rw [if_neg (show ¬ n.kind = 5 by omega)]
  rw [if_pos h]
theorem okB_7 (ns : List Nd) (a : Nat) (n : Nd) (h : n.kind = 7) : okB ns a n = ok7 ns a n := by
  unfold okB
  rw [if_neg (show ¬ n.kind = 1 by omega)]
  rw [if_neg (show ¬ n.kind = 2 by omega)]
  rw [if_neg (show ¬ n.kind = 3 by omega)]
  rw [if_neg (show ¬ n.kind = 4 by omega)]
  rw [if_neg (show ¬ n.kind = 5 by omega)]
  rw [if_neg (show ¬ n.kind = 6 by omega)]
  rw [if_pos h]
theorem okB_8 (ns : List Nd) (a : Nat) (n : Nd) (h : n.kind = 8) : okB ns a n = ok8 ns a n := by
  unfold okB
  rw [if_neg (show ¬ n.kind = 1 by omega)]
  rw [if_neg (show ¬ n.kind = 2 by omega)]
  rw [if_neg (show ¬ n.kind = 3 by omega)]
  rw [if_neg (show ¬ n.kind = 4 by omega)]
  rw [if_neg (show ¬ n.kind = 5 by omega)]
  rw [if_neg (show ¬ n.kind = 6 by omega)]
  rw [if_neg (show ¬ n.kind = 7 by omega)]
  rw [if_pos h]
theorem okB_9 (ns : List Nd) (a : Nat) (n : Nd) (h : n.kind = 9) : okB ns a n = ok9 ns a n := by
  unfold okB
  rw [if_neg (show ¬ n.kind = 1 by omega)]
  rw [if_neg (show ¬ n.kind = 2 by omega)]
  rw [if_neg (show ¬ n.kind = 3 by omega)]
  rw [if_neg (show ¬ n.kind = 4 by omega)]
  rw [if_neg (show ¬ n.kind = 5 by omega)]
  rw [if_neg (show ¬ n.kind = 6 by omega)]
  rw [if_neg (show ¬ n.kind = 7 by omega)]
  rw [if_neg (show ¬ n.kind = 8 by omega)]
  rw [if_pos h]
theorem okB_10 (ns : List Nd) (a : Nat) (n : Nd) (h : n.kind = 10) : okB ns a n = ok9 ns a n := by
  unfold okB
  rw [if_neg (show ¬ n.kind = 1 by omega)]
  rw [if_neg (show ¬ n.kind = 2 by omega)]
  rw [if_neg (show ¬ n.kind = 3 by omega)]
  rw [if_neg (show ¬ n.kind = 4 by omega)]
  rw [if_neg (show ¬ n.kind = 5 by omega)]
  rw [if_neg (show ¬ n.kind = 6 by omega)]
  rw [if_neg (show ¬ n.kind = 7 by omega)]
  rw [if_neg (show ¬ n.kind = 8 by omega)]
  rw [if_neg (show ¬ n.kind = 9 by omega)]
  rw [if_pos h]
theorem okB_11 (ns : List Nd) (a : Nat) (n : Nd) (h : n.kind = 11) : okB ns a n = ok11 ns a n := by
  unfold okB
  rw [if_neg (show ¬ n.kind = 1 by omega)]
  rw [if_neg (show ¬ n.kind = 2 by omega)]
  rw [if_neg (show ¬ n.kind = 3 by omega)]
  rw [if_neg (show ¬ n.kind = 4 by omega)]
  rw [if_neg (show ¬ n.kind = 5 by omega)]
  rw [if_neg (show ¬ n.kind = 6 by omega)]
  rw [if_neg (show ¬ n.kind = 7 by omega)]
  rw [if_neg (show ¬ n.kind = 8 by omega)]
  rw [if_neg (show ¬ n.kind = 9 by omega)]
  rw [if_neg (show ¬ n.kind = 10 by omega)]
  rw [if_pos h]
theorem okB_12 (ns : List Nd) (a : Nat) (n : Nd) (h : n.kind = 12) : okB ns a n = ok12 ns a n := by
  unfold okB
  rw [if_neg (show ¬ n.kind = 1 by omega)]
  rw [if_neg (show ¬ n.kind = 2 by omega)]
  rw [if_neg (show ¬ n.kind = 3 by omega)]
  rw [if_neg (show ¬ n.kind = 4 by omega)]
  rw [if_neg (show ¬ n.kind = 5 by omega)]
  rw [if_neg (show ¬ n.kind = 6 by omega)]
  rw [if_neg (show ¬ n.kind = 7 by omega)]
  rw [if_neg (show ¬ n.kind = 8 by omega)]
  rw [if_neg (show ¬ n.kind = 9 by omega)]
  rw [if_neg (show ¬ n.kind = 10 by omega)]
  rw [if_neg (show ¬ n.kind = 11 by omega)]
  rw [if_pos h]
theorem okB_13 (ns : List Nd) (a : Nat) (n : Nd) (h : n.kind = 13) : okB ns a n = ok13 ns a n := by
  unfold okB
  rw [if_neg (show ¬ n.kind = 1 by omega)]
  rw [if_neg (show ¬ n.kind = 2 by omega)]
  rw [if_neg (show ¬ n.kind = 3 by omega)]
  rw [if_neg (show ¬ n.kind = 4 by omega)]
  rw [if_neg (show ¬ n.kind = 5 by omega)]
  rw [if_neg (show ¬ n.kind = 6 by omega)]
  rw [if_neg (show ¬ n.kind = 7 by omega)]
  rw [if_neg (show ¬ n.kind = 8 by omega)]
  rw [if_neg (show ¬ n.kind = 9 by omega)]
  rw [if_neg (show ¬ n.kind = 10 by omega)]
  rw [if_neg (show ¬ n.kind = 11 by omega)]
  rw [if_neg (show ¬ n.kind = 12 by omega)]
  rw [if_pos h]
theorem okB_14 (ns : List Nd) (a : Nat) (n : Nd) (h : n.kind = 14) : okB ns a n = ok4 ns a n := by
  unfold okB
  rw [if_neg (show ¬ n.kind = 1 by omega)]
  rw [if_neg (show ¬ n.kind = 2 by omega)]
  rw [if_neg (show ¬ n.kind = 3 by omega)]
  rw [if_neg (show ¬ n.kind = 4 by omega)]
  rw [if_neg (show ¬ n.kind = 5 by omega)]
  rw [if_neg (show ¬ n.kind = 6 by omega)]
  rw [if_neg (show ¬ n.kind = 7 by omega)]
  rw [if_neg (show ¬ n.kind = 8 by omega)]
  rw [if_neg (show ¬ n.kind = 9 by omega)]
  rw [if_neg (show ¬ n.kind = 10 by omega)]
  rw [if_neg (show ¬ n.kind = 11 by omega)]
  rw [if_neg (show ¬ n.kind = 12 by omega)]
  rw [if_neg (show ¬ n.kind = 13 by omega)]
  rw [if_pos h]
theorem okB_20 (ns : List Nd) (a : Nat) (n : Nd) (h : n.kind = 20) : okB ns a n = ok20 ns a n := by
  unfold okB
  rw [if_neg (show ¬ n.kind = 1 by omega)]
  rw [if_neg (show ¬ n.kind = 2 by omega)]
  rw [if_neg (show ¬ n.kind = 3 by omega)]
  rw [if_neg (show ¬ n.kind = 4 by omega)]
  rw [if_neg (show ¬ n.kind = 5 by omega)]
  rw [if_neg (show ¬ n.kind = 6 by omega)]
  rw [if_neg (show ¬ n.kind = 7 by omega)]
  rw [if_neg (show ¬ n.kind = 8 by omega)]
  rw [if_neg (show ¬ n.kind = 9 by omega)]
  rw [if_neg (show ¬ n.kind = 10 by omega)]
  rw [if_neg (show ¬ n.kind = 11 by omega)]
  rw [if_neg (show ¬ n.kind = 12 by omega)]
  rw [if_neg (show ¬ n.kind = 13 by omega)]
  rw [if_neg (show ¬ n.kind = 14 by omega)]
  rw [if_pos h]
theorem okB_21 (ns : List Nd) (a : Nat) (n : Nd) (h : n.kind = 21) : okB ns a n = ok20 ns a n := by
  unfold okB
  rw [if_neg (show ¬ n.kind = 1 by omega)]
  rw [if_neg (show ¬ n.kind = 2 by omega)]
  rw [if_neg (show ¬ n.kind = 3 by omega)]
  rw [if_neg (show ¬ n.kind = 4 by omega)]
  rw [if_neg (show ¬ n.kind = 5 by omega)]
  rw [if_neg (show ¬ n.kind = 6 by omega)]
  rw [if_neg (show ¬ n.kind = 7 by omega)]
  rw [if_neg (show ¬ n.kind = 8 by omega)]
  rw [if_neg (show ¬ n.kind = 9 by omega)]
  rw [if_neg (show ¬ n.kind = 10 by omega)]
  rw [if_neg (show ¬ n.kind = 11 by omega)]
  rw [if_neg (show ¬ n.kind = 12 by omega)]
  rw [if_neg (show ¬ n.kind = 13 by omega)]
  rw [if_neg (show ¬ n.kind = 14 by omega)]
  rw [if_neg (show ¬ n.kind = 20 by omega)]
  rw [if_pos h]
theorem okB_22 (ns : List Nd) (a : Nat) (n : Nd) (h : n.kind = 22) : okB ns a n = ok20 ns a n := by
  unfold okB
  rw [if_neg (show ¬ n.kind = 1 by omega)]
  rw [if_neg (show ¬ n.kind = 2 by omega)]
  rw [if_neg (show ¬ n.kind = 3 by omega)]
  rw [if_neg (show ¬ n.kind = 4 by omega)]
  rw [if_neg (show ¬ n.kind = 5 by omega)]
  rw [if_neg (show ¬ n.kind = 6 by omega)]
  rw [if_neg (show ¬ n.kind = 7 by omega)]
  rw [if_neg (show ¬ n.kind = 8 by omega)]
  rw [if_neg (show ¬ n.kind = 9 by omega)]
  rw [if_neg (show ¬ n.kind = 10 by omega)]
  rw [if_neg (show ¬ n.kind = 11 by omega)]
  rw [if_neg (show ¬ n.kind = 12 by omega)]
  rw [if_neg (show ¬ n.kind = 13 by omega)]
  rw [if_neg (show ¬ n.kind = 14 by omega)]
  rw [if_neg (show ¬ n.kind = 20 by omega)]
  rw [if_neg (show ¬ n.kind = 21 by omega)]
  rw [if_pos h]
theorem okB_23 (ns : List Nd) (a : Nat) (n : Nd) (h : n.kind = 23) : okB ns a n = ok23 ns a n := by
  unfold okB
  rw [if_neg (show ¬ n.kind = 1 by omega)]
  rw [if_neg (show ¬ n.kind = 2 by omega)]
  rw [if_neg (show ¬ n.kind = 3 by omega)]
  rw [if_neg (show ¬ n.kind = 4 by omega)]
  rw [if_neg (show ¬ n.kind = 5 by omega)]
  rw [if_neg (show ¬ n.kind = 6 by omega)]
  rw [if_neg (show ¬ n.kind = 7 by omega)]
  rw [if_neg (show ¬ n.kind = 8 by omega)]
  rw [if_neg (show ¬ n.kind = 9 by omega)]
  rw [if_neg (show ¬ n.kind = 10 by omega)]
  rw [if_neg (show ¬ n.kind = 11 by omega)]
  rw [if_neg (show ¬ n.kind = 12 by omega)]
  rw [if_neg (show ¬ n.kind = 13 by omega)]
  rw [if_neg (show ¬ n.kind = 14 by omega)]
  rw [if_neg (show ¬ n.kind = 20 by omega)]
  rw [if_neg (show ¬ n.kind = 21 by omega)]
  rw [if_neg (show ¬ n.kind = 22 by omega)]
  rw [if_pos h]
theorem okB_24 (ns : List Nd) (a : Nat) (n : Nd) (h : n.kind = 24) : okB ns a n = ok24 ns a n := by
  unfold okB
  rw [if_neg (show ¬ n.kind = 1 by omega)]
  rw [if_neg (show ¬ n.kind = 2 by omega)]
  rw [if_neg (show ¬ n.kind = 3 by omega)]
  rw [if_neg (show ¬ n.kind = 4 by omega)]
  rw [if_neg (show ¬ n.kind = 5 by omega)]
  rw [if_neg (show ¬ n.kind = 6 by omega)]
  rw [if_neg (show ¬ n.kind = 7 by omega)]
  rw [if_neg (show ¬ n.kind = 8 by omega)]
  rw [if_neg (show ¬ n.kind = 9 by omega)]
  rw [if_neg (show ¬ n.kind = 10 by omega)]
  rw [if_neg (show ¬ n.kind = 11 by omega)]
  rw [if_neg (show ¬ n.kind = 12 by omega)]
  rw [if_neg (show ¬ n.kind = 13 by omega)]
  rw [if_neg (show ¬ n.kind = 14 by omega)]
  rw [if_neg (show ¬ n.kind = 20 by omega)]
  rw [if_neg (show ¬ n.kind = 21 by omega)]
  rw [if_neg (show ¬ n.kind = 22 by omega)]
  rw [if_neg (show ¬ n.kind = 23 by omega)]
  rw [if_pos h]
theorem okB_25 (ns : List Nd) (a : Nat) (n : Nd) (h : n.kind = 25) : okB ns a n = ok25 ns a n := by
  unfold okB
  rw [if_neg (show ¬ n.kind = 1 by omega)]
  rw [if_neg (show ¬ n.kind = 2 by omega)]
  rw [if_neg (show ¬ n.kind = 3 by omega)]
  rw [if_neg (show ¬ n.kind = 4 by omega)]
  rw [if_neg (show ¬ n.kind = 5 by omega)]
  rw [if_neg (show ¬ n.kind = 6 by omega)]
  rw [if_neg (show ¬ n.kind = 7 by omega)]
  rw [if_neg (show ¬ n.kind = 8 by omega)]
  rw [if_neg (show ¬ n.kind = 9 by omega)]
  rw [if_neg (show ¬ n.kind = 10 by omega)]
  rw [if_neg (show ¬ n.kind = 11 by omega)]
  rw [if_neg (show ¬ n.kind = 12 by omega)]
  rw [if_neg (show ¬ n.kind = 13 by omega)]
  rw [if_neg (show ¬ n.kind = 14 by omega)]
  rw [if_neg (show ¬ n.kind = 20 by omega)]
  rw [if_neg (show ¬ n.kind = 21 by omega)]
  rw [if_neg (show ¬ n.kind = 22 by omega)]
  rw [if_neg (show ¬ n.kind = 23 by omega)]
  rw [if_neg (show ¬ n.kind = 24 by omega)]
  rw [if_pos h]
theorem okB_26 (ns : List Nd) (a : Nat) (n : Nd) (h : n.kind = 26) : okB ns a n = ok26 ns a n := by
  unfold okB
  rw [if_neg (show ¬ n.kind = 1 by omega)]
  rw [if_neg (show ¬ n.kind = 2 by omega)]
  rw [if_neg (show ¬ n.kind = 3 by omega)]
  rw [if_neg (show ¬ n.kind = 4 by omega)]
  rw [if_neg (show ¬ n.kind = 5 by omega)]
  rw [if_neg (show ¬ n.kind = 6 by omega)]
  rw [if_neg (show ¬ n.kind = 7 by omega)]
  rw [if_neg (show ¬ n.kind = 8 by omega)]
  rw [if_neg (show ¬ n.kind = 9 by omega)]
  rw [if_neg (show ¬ n.kind = 10 by omega)]
  rw [if_neg (show ¬ n.kind = 11 by omega)]
  rw [if_neg (show ¬ n.kind = 12 by omega)]
  rw [if_neg (show ¬ n.kind = 13 by omega)]
  rw [if_neg (show ¬ n.kind = 14 by omega)]
  rw [if_neg (show ¬ n.kind = 20 by omega)]
  rw [if_neg (show ¬ n.kind = 21 by omega)]
  rw [if_neg (show ¬ n.kind = 22 by omega)]
  rw [if_neg (show ¬ n.kind = 23 by omega)]
  rw [if_neg (show ¬ n.kind = 24 by omega)]
  rw [if_neg (show ¬ n.kind = 25 by omega)]
  rw [if_pos h]
theorem okB_27 (ns : List Nd) (a : Nat) (n : Nd) (h : n.kind = 27) : okB ns a n = ok26 ns a n := by
  unfold okB
  rw [if_neg (show ¬ n.kind = 1 by omega)]
  rw [if_neg (show ¬ n.kind = 2 by omega)]
  rw [if_neg (show ¬ n.kind = 3 by omega)]
  rw [if_neg (show ¬ n.kind = 4 by omega)]
  rw [if_neg (show ¬ n.kind = 5 by omega)]
  rw [if_neg (show ¬ n.kind = 6 by omega)]
  rw [if_neg (show ¬ n.kind = 7 by omega)]
  rw [if_neg (show ¬ n.kind = 8 by omega)]
  rw [if_neg (show ¬ n.kind = 9 by omega)]
  rw [if_neg (show ¬ n.kind = 10 by omega)]
  rw [if_neg (show ¬ n.kind = 11 by omega)]
  rw [if_neg (show ¬ n.kind = 12 by omega)]
  rw [if_neg (show ¬ n.kind = 13 by omega)]
  rw [if_neg (show ¬ n.kind = 14 by omega)]
  rw [if_neg (show ¬ n.kind = 20 by omega)]
  rw [if_neg (show ¬ n.kind = 21 by omega)]
  rw [if_neg (show ¬ n.kind = 22 by omega)]
  rw [if_neg (show ¬ n.kind = 23 by omega)]
  rw [if_neg (show ¬ n.kind = 24 by omega)]
  rw [if_neg (show ¬ n.kind = 25 by omega)]
  rw [if_neg (show ¬ n.kind = 26 by omega)]
  rw [if_pos h]
theorem okB_28 (ns : List Nd) (a : Nat) (n : Nd) (h : n.kind = 28) : okB ns a n = ok28 ns a n := by
  unfold okB
  rw [if_neg (show ¬ n.kind = 1 by omega)]
  rw [if_neg (show ¬ n.kind = 2 by omega)]
  rw [if_neg (show ¬ n.kind = 3 by omega)]
  rw [if_neg (show ¬ n.kind = 4 by omega)]
  rw [if_neg (show ¬ n.kind = 5 by omega)]
  rw [if_neg (show ¬ n.kind = 6 by omega)]
  rw [if_neg (show ¬ n.kind = 7 by omega)]
  rw [if_neg (show ¬ n.kind = 8 by omega)]
  rw [if_neg (show ¬ n.kind = 9 by omega)]
  rw [if_neg (show ¬ n.kind = 10 by omega)]
  rw [if_neg (show ¬ n.kind = 11 by omega)]
  rw [if_neg (show ¬ n.kind = 12 by omega)]
  rw [if_neg (show ¬ n.kind = 13 by omega)]
  rw [if_neg (show ¬ n.kind = 14 by omega)]
  rw [if_neg (show ¬ n.kind = 20 by omega)]
  rw [if_neg (show ¬ n.kind = 21 by omega)]
  rw [if_neg (show ¬ n.kind = 22 by omega)]
  rw [if_neg (show ¬ n.kind = 23 by omega)]
  rw [if_neg (show ¬ n.kind = 24 by omega)]
  rw [if_neg (show ¬ n.kind = 25 by omega)]
  rw [if_neg (show ¬ n.kind = 26 by omega)]
  rw [if_neg (show ¬ n.kind = 27 by omega)]
  rw [if_pos h]
theorem okB_29 (ns : List Nd) (a : Nat) (n : Nd) (h : n.kind = 29) : okB ns a n = ok29 ns a n := by
  unfold okB
  rw [if_neg (show ¬ n.kind = 1 by omega)]
  rw [if_neg (show ¬ n.kind = 2 by omega)]
  rw [if_neg (show ¬ n.kind = 3 by omega)]
  rw [if_neg (show ¬ n.kind = 4 by omega)]
  rw [if_neg (show ¬ n.kind = 5 by omega)]
  rw [if_neg (show ¬ n.kind = 6 by omega)]
  rw [if_neg (show ¬ n.kind = 7 by omega)]
  rw [if_neg (show ¬ n.kind = 8 by omega)]
  rw [if_neg (show ¬ n.kind = 9 by omega)]
  rw [if_neg (show ¬ n.kind = 10 by omega)]
  rw [if_neg (show ¬ n.kind = 11 by omega)]
  rw [if_neg (show ¬ n.kind = 12 by omega)]
  rw [if_neg (show ¬ n.kind = 13 by omega)]
  rw [if_neg (show ¬ n.kind = 14 by omega)]
  rw [if_neg (show ¬ n.kind = 20 by omega)]
  rw [if_neg (show ¬ n.kind = 21 by omega)]
  rw [if_neg (show ¬ n.kind = 22 by omega)]
  rw [if_neg (show ¬ n.kind = 23 by omega)]
  rw [if_neg (show ¬ n.kind = 24 by omega)]
  rw [if_neg (show ¬ n.kind = 25 by omega)]
  rw [if_neg (show ¬ n.kind = 26 by omega)]
  rw [if_neg (show ¬ n.kind = 27 by omega)]
  rw [if_neg (show ¬ n.kind = 28 by omega)]
  rw [if_pos h]
theorem okB_30 (ns : List Nd) (a : Nat) (n : Nd) (h : n.kind = 30) : okB ns a n = ok29 ns a n := by
  unfold okB
  rw [if_neg (show ¬ n.kind = 1 by omega)]
  rw [if_neg (show ¬ n.kind = 2 by omega)]
  rw [if_neg (show ¬ n.kind = 3 by omega)]
  rw [if_neg (show ¬ n.kind = 4 by omega)]
  rw [if_neg (show ¬ n.kind = 5 by omega)]
  rw [if_neg (show ¬ n.kind = 6 by omega)]
  rw [if_neg (show ¬ n.kind = 7 by omega)]
  rw [if_neg (show ¬ n.kind = 8 by omega)]
  rw [if_neg (show ¬ n.kind = 9 by omega)]
  rw [if_neg (show ¬ n.kind = 10 by omega)]
  rw [if_neg (show ¬ n.kind = 11 by omega)]
  rw [if_neg (show ¬ n.kind = 12 by omega)]
  rw [if_neg (show ¬ n.kind = 13 by omega)]
  rw [if_neg (show ¬ n.kind = 14 by omega)]
  rw [if_neg (show ¬ n.kind = 20 by omega)]
  rw [if_neg (show ¬ n.kind = 21 by omega)]
  rw [if_neg (show ¬ n.kind = 22 by omega)]
  rw [if_neg (show ¬ n.kind = 23 by omega)]
  rw [if_neg (show ¬ n.kind = 24 by omega)]
  rw [if_neg (show ¬ n.kind = 25 by omega)]
  rw [if_neg (show ¬ n.kind = 26 by omega)]
  rw [if_neg (show ¬ n.kind = 27 by omega)]
  rw [if_neg (show ¬ n.kind = 28 by omega)]
  rw [if_neg (show ¬ n.kind = 29 by omega)]
  rw [if_pos h]
theorem okB_31 (ns : List Nd) (a : Nat) (n : Nd) (h : n.kind = 31) : okB ns a n = ok31 ns a n := by
  unfold okB
  rw [if_neg (show ¬ n.kind = 1 by omega)]
  rw [if_neg (show ¬ n.kind = 2 by omega)]
  rw [if_neg (show ¬ n.kind = 3 by omega)]
  rw [if_neg (show ¬ n.kind = 4 by omega)]
  rw [if_neg (show ¬ n.kind = 5 by omega)]
  rw [if_neg (show ¬ n.kind = 6 by omega)]
  rw [if_neg (show ¬ n.kind = 7 by omega)]
  rw [if_neg (show ¬ n.kind = 8 by omega)]
  rw [if_neg (show ¬ n.kind = 9 by omega)]
  rw [if_neg (show ¬ n.kind = 10 by omega)]
  rw [if_neg (show ¬ n.kind = 11 by omega)]
  rw [if_neg (show ¬ n.kind = 12 by omega)]
  rw [if_neg (show ¬ n.kind = 13 by omega)]
  rw [if_neg (show ¬ n.kind = 14 by omega)]
  rw [if_neg (show ¬ n.kind = 20 by omega)]
  rw [if_neg (show ¬ n.kind = 21 by omega)]
  rw [if_neg (show ¬ n.kind = 22 by omega)]
  rw [if_neg (show ¬ n.kind = 23 by omega)]
  rw [if_neg (show ¬ n.kind = 24 by omega)]
  rw [if_neg (show ¬ n.kind = 25 by omega)]
  rw [if_neg (show ¬ n.kind = 26 by omega)]
  rw [if_neg (show ¬ n.kind = 27 by omega)]
  rw [if_neg (show ¬ n.kind = 28 by omega)]
  rw [if_neg (show ¬ n.kind = 29 by omega)]
  rw [if_neg (show ¬ n.kind = 30 by omega)]
  rw [if_pos h]
theorem okB_32 (ns : List Nd) (a : Nat) (n : Nd) (h : n.kind = 32) : okB ns a n = ok32 ns a n := by
  unfold okB
  rw [if_neg (show ¬ n.kind = 1 by omega)]
  rw [if_neg (show ¬ n.kind = 2 by omega)]
  rw [if_neg (show ¬ n.kind = 3 by omega)]
  rw [if_neg (show ¬ n.kind = 4 by omega)]
  rw [if_neg (show ¬ n.kind = 5 by omega)]
  rw [if_neg (show ¬ n.kind = 6 by omega)]
  rw [if_neg (show ¬ n.kind = 7 by omega)]
  rw [if_neg (show ¬ n.kind = 8 by omega)]
  rw [if_neg (show ¬ n.kind = 9 by omega)]
  rw [if_neg (show ¬ n.kind = 10 by omega)]
  rw [if_neg (show ¬ n.kind = 11 by omega)]
  rw [if_neg (show ¬ n.kind = 12 by omega)]
  rw [if_neg (show ¬ n.kind = 13 by omega)]
  rw [if_neg (show ¬ n.kind = 14 by omega)]
  rw [if_neg (show ¬ n.kind = 20 by omega)]
  rw [if_neg (show ¬ n.kind = 21 by omega)]
  rw [if_neg (show ¬ n.kind = 22 by omega)]
  rw [if_neg (show ¬ n.kind = 23 by omega)]
  rw [if_neg (show ¬ n.kind = 24 by omega)]
  rw [if_neg (show ¬ n.kind = 25 by omega)]
  rw [if_neg (show ¬ n.kind = 26 by omega)]
  rw [if_neg (show ¬ n.kind = 27 by omega)]
  rw [if_neg (show ¬ n.kind = 28 by omega)]
  rw [if_neg (show ¬ n.kind = 29 by omega)]
  rw [if_neg (show ¬ n.kind = 30 by omega)]
  rw [if_neg (show ¬ n.kind = 31 by omega)]
  rw [if_pos h]
theorem okB_33 (ns : List Nd) (a : Nat) (n : Nd) (h : n.kind = 33) : okB ns a n = ok29 ns a n := by
  unfold okB
  rw [if_neg (show ¬ n.kind = 1 by omega)]
  rw [if_neg (show ¬ n.kind = 2 by omega)]
  rw [if_neg (show ¬ n.kind = 3 by omega)]
  rw [if_neg (show ¬ n.kind = 4 by omega)]
  rw [if_neg (show ¬ n.kind = 5 by omega)]
  rw [if_neg (show ¬ n.kind = 6 by omega)]
  rw [if_neg (show ¬ n.kind = 7 by omega)]
  rw [if_neg (show ¬ n.kind = 8 by omega)]
  rw [if_neg (show ¬ n.kind = 9 by omega)]
  rw [if_neg (show ¬ n.kind = 10 by omega)]
  rw [if_neg (show ¬ n.kind = 11 by omega)]
  rw [if_neg (show ¬ n.kind = 12 by omega)]
  rw [if_neg (show ¬ n.kind = 13 by omega)]
  rw [if_neg (show ¬ n.kind = 14 by omega)]
  rw [if_neg (show ¬ n.kind = 20 by omega)]
  rw [if_neg (show ¬ n.kind = 21 by omega)]
  rw [if_neg (show ¬ n.kind = 22 by omega)]
  rw [if_neg (show ¬ n.kind = 23 by omega)]
  rw [if_neg (show ¬ n.kind = 24 by omega)]
  rw [if_neg (show ¬ n.kind = 25 by omega)]
  rw [if_neg (show ¬ n.kind = 26 by omega)]
  rw [if_neg (show ¬ n.kind = 27 by omega)]
  rw [if_neg (show ¬ n.kind = 28 by omega)]
  rw [if_neg (show ¬ n.kind = 29 by omega)]
  rw [if_neg (show ¬ n.kind = 30 by omega)]
  rw [if_neg (show ¬ n.kind = 31 by omega)]
  rw [if_neg (show ¬ n.kind = 32 by omega)]
  rw [if_pos h]
theorem okB_34 (ns : List Nd) (a : Nat) (n : Nd) (h : n.kind = 34) : okB ns a n = ok34 ns a n := by
  unfold okB
  rw [if_neg (show ¬ n.kind = 1 by omega)]
  rw [if_neg (show ¬ n.kind = 2 by omega)]
  rw [if_neg (show ¬ n.kind = 3 by omega)]
  rw [if_neg (show ¬ n.kind = 4 by omega)]
  rw [if_neg (show ¬ n.kind = 5 by omega)]
  rw [if_neg (show ¬ n.kind = 6 by omega)]
  rw [if_neg (show ¬ n.kind = 7 by omega)]
  rw [if_neg (show ¬ n.kind = 8 by omega)]
  rw [if_neg (show ¬ n.kind = 9 by omega)]
  rw [if_neg (show ¬ n.kind = 10 by omega)]
  rw [if_neg (show ¬ n.kind = 11 by omega)]
  rw [if_neg (show ¬ n.kind = 12 by omega)]
  rw [if_neg (show ¬ n.kind = 13 by omega)]
  rw [if_neg (show ¬ n.kind = 14 by omega)]
  rw [if_neg (show ¬ n.kind = 20 by omega)]
  rw [if_neg (show ¬ n.kind = 21 by omega)]
  rw [if_neg (show ¬ n.kind = 22 by omega)]
  rw [if_neg (show ¬ n.kind = 23 by omega)]
  rw [if_neg (show ¬ n.kind = 24 by omega)]
  rw [if_neg (show ¬ n.kind = 25 by omega)]
  rw [if_neg (show ¬ n.kind = 26 by omega)]
  rw [if_neg (show ¬ n.kind = 27 by omega)]
  rw [if_neg (show ¬ n.kind = 28 by omega)]
  rw [if_neg (show ¬ n.kind = 29 by omega)]
  rw [if_neg (show ¬ n.kind = 30 by omega)]
  rw [if_neg (show ¬ n.kind = 31 by omega)]
  rw [if_neg (show ¬ n.kind = 32 by omega)]
  rw [if_neg (show ¬ n.kind = 33 by omega)]
  rw [if_pos h]
theorem okB_35 (ns : List Nd) (a : Nat) (n : Nd) (h : n.kind = 35) : okB ns a n = ok35 ns a n := by
  unfold okB
  rw [if_neg (show ¬ n.kind = 1 by omega)]
  rw [if_neg (show ¬ n.kind = 2 by omega)]
  rw [if_neg (show ¬ n.kind = 3 by omega)]
  rw [if_neg (show ¬ n.kind = 4 by omega)]
  rw [if_neg (show ¬ n.kind = 5 by omega)]
  rw [if_neg (show ¬ n.kind = 6 by omega)]
  rw [if_neg (show ¬ n.kind = 7 by omega)]
  rw [if_neg (show ¬ n.kind = 8 by omega)]
  rw [if_neg (show ¬ n.kind = 9 by omega)]
  rw [if_neg (show ¬ n.kind = 10 by omega)]
  rw [if_neg (show ¬ n.kind = 11 by omega)]
  rw [if_neg (show ¬ n.kind = 12 by omega)]
  rw [if_neg (show ¬ n.kind = 13 by omega)]
  rw [if_neg (show ¬ n.kind = 14 by omega)]
  rw [if_neg (show ¬ n.kind = 20 by omega)]
  rw [if_neg (show ¬ n.kind = 21 by omega)]
  rw [if_neg (show ¬ n.kind = 22 by omega)]
  rw [if_neg (show ¬ n.kind = 23 by omega)]
  rw [if_neg (show ¬ n.kind = 24 by omega)]
  rw [if_neg (show ¬ n.kind = 25 by omega)]
  rw [if_neg (show ¬ n.kind = 26 by omega)]
  rw [if_neg (show ¬ n.kind = 27 by omega)]
  rw [if_neg (show ¬ n.kind = 28 by omega)]
  rw [if_neg (show ¬ n.kind = 29 by omega)]
  rw [if_neg (show ¬ n.kind = 30 by omega)]
  rw [if_neg (show ¬ n.kind = 31 by omega)]
  rw [if_neg (show ¬ n.kind = 32 by omega)]
  rw [if_neg (show ¬ n.kind = 33 by omega)]
  rw [if_neg (show ¬ n.kind = 34 by omega)]
  rw [if_pos h]
theorem okB_36 (ns : List Nd) (a : Nat) (n : Nd) (h : n.kind = 36) : okB ns a n = ok26 ns a n := by
  unfold okB
  rw [if_neg (show ¬ n.kind = 1 by omega)]
  rw [if_neg (show ¬ n.kind = 2 by omega)]
  rw [if_neg (show ¬ n.kind = 3 by omega)]
  rw [if_neg (show ¬ n.kind = 4 by omega)]
  rw [if_neg (show ¬ n.kind = 5 by omega)]
  rw [if_neg (show ¬ n.kind = 6 by omega)]
  rw [if_neg (show ¬ n.kind = 7 by omega)]
  rw [if_neg (show ¬ n.kind = 8 by omega)]
  rw [if_neg (show ¬ n.kind = 9 by omega)]
  rw [if_neg (show ¬ n.kind = 10 by omega)]
  rw [if_neg (show ¬ n.kind = 11 by omega)]
  rw [if_neg (show ¬ n.kind = 12 by omega)]
  rw [if_neg (show ¬ n.kind = 13 by omega)]
  rw [if_neg (show ¬ n.kind = 14 by omega)]
  rw [if_neg (show ¬ n.kind = 20 by omega)]
  rw [if_neg (show ¬ n.kind = 21 by omega)]
  rw [if_neg (show ¬ n.kind = 22 by omega)]
  rw [if_neg (show ¬ n.kind = 23 by omega)]
  rw [if_neg (show ¬ n.kind = 24 by omega)]
  rw [if_neg (show ¬ n.kind = 25 by omega)]
  rw [if_neg (show ¬ n.kind = 26 by omega)]
  rw [if_neg (show ¬ n.kind = 27 by omega)]
  rw [if_neg (show ¬ n.kind = 28 by omega)]
  rw [if_neg (show ¬ n.kind = 29 by omega)]
  rw [if_neg (show ¬ n.kind = 30 by omega)]
  rw [if_neg (show ¬ n.kind = 31 by omega)]
  rw [if_neg (show ¬ n.kind = 32 by omega)]
  rw [if_neg (show ¬ n.kind = 33 by omega)]
  rw [if_neg (show ¬ n.kind = 34 by omega)]
  rw [if_neg (show ¬ n.kind = 35 by omega)]
  rw [if_pos h]
theorem okB_37 (ns : List Nd) (a : Nat) (n : Nd) (h : n.kind = 37) : okB ns a n = ok20 ns a n := by
  unfold okB
  rw [if_neg (show ¬ n.kind = 1 by omega)]
  rw [if_neg (show ¬ n.kind = 2 by omega)]
  rw [if_neg (show ¬ n.kind = 3 by omega)]
  rw [if_neg (show ¬ n.kind = 4 by omega)]
  rw [if_neg (show ¬ n.kind = 5 by omega)]
  rw [if_neg (show ¬ n.kind = 6 by omega)]
  rw [if_neg (show ¬ n.kind = 7 by omega)]
  rw [if_neg (show ¬ n.kind = 8 by omega)]
  rw [if_neg (show ¬ n.kind = 9 by omega)]
  rw [if_neg (show ¬ n.kind = 10 by omega)]
  rw [if_neg (show ¬ n.kind = 11 by omega)]
  rw [if_neg (show ¬ n.kind = 12 by omega)]
  rw [if_neg (show ¬ n.kind = 13 by omega)]
  rw [if_neg (show ¬ n.kind = 14 by omega)]
  rw [if_neg (show ¬ n.kind = 20 by omega)]
  rw [if_neg (show ¬ n.kind = 21 by omega)]
  rw [if_neg (show ¬ n.kind = 22 by omega)]
  rw [if_neg (show ¬ n.kind = 23 by omega)]
  rw [if_neg (show ¬ n.kind = 24 by omega)]
  rw [if_neg (show ¬ n.kind = 25 by omega)]
  rw [if_neg (show ¬ n.kind = 26 by omega)]
  rw [if_neg (show ¬ n.kind = 27 by omega)]
  rw [if_neg (show ¬ n.kind = 28 by omega)]
  rw [if_neg (show ¬ n.kind = 29 by omega)]
  rw [if_neg (show ¬ n.kind = 30 by omega)]
  rw [if_neg (show ¬ n.kind = 31 by omega)]
  rw [if_neg (show ¬ n.kind = 32 by omega)]
  rw [if_neg (show ¬ n.kind = 33 by omega)]
  rw [if_neg (show ¬ n.kind = 34 by omega)]
  rw [if_neg (show ¬ n.kind = 35 by omega)]
  rw [if_neg (show ¬ n.kind = 36 by omega)]
  rw [if_pos h]
theorem okB_38 (ns : List Nd) (a : Nat) (n : Nd) (h : n.kind = 38) : okB ns a n = ok38 ns a n := by
  unfold okB
  rw [if_neg (show ¬ n.kind = 1 by omega)]
  rw [if_neg (show ¬ n.kind = 2 by omega)]
  rw [if_neg (show ¬ n.kind = 3 by omega)]
  rw [if_neg (show ¬ n.kind = 4 by omega)]
  rw [if_neg (show ¬ n.kind = 5 by omega)]
  rw [if_neg (show ¬ n.kind = 6 by omega)]
  rw [if_neg (show ¬ n.kind = 7 by omega)]
  rw [if_neg (show ¬ n.kind = 8 by omega)]
  rw [if_neg (show ¬ n.kind = 9 by omega)]
  rw [if_neg (show ¬ n.kind = 10 by omega)]
  rw [if_neg (show ¬ n.kind = 11 by omega)]
  rw [if_neg (show ¬ n.kind = 12 by omega)]
  rw [if_neg (show ¬ n.kind = 13 by omega)]
  rw [if_neg (show ¬ n.kind = 14 by omega)]
  rw [if_neg (show ¬ n.kind = 20 by omega)]
  rw [if_neg (show ¬ n.kind = 21 by omega)]
  rw [if_neg (show ¬ n.kind = 22 by omega)]
  rw [if_neg (show ¬ n.kind = 23 by omega)]
  rw [if_neg (show ¬ n.kind = 24 by omega)]
  rw [if_neg (show ¬ n.kind = 25 by omega)]
  rw [if_neg (show ¬ n.kind = 26 by omega)]
  rw [if_neg (show ¬ n.kind = 27 by omega)]
  rw [if_neg (show ¬ n.kind = 28 by omega)]
  rw [if_neg (show ¬ n.kind = 29 by omega)]
  rw [if_neg (show ¬ n.kind = 30 by omega)]
  rw [if_neg (show ¬ n.kind = 31 by omega)]
  rw [if_neg (show ¬ n.kind = 32 by omega)]
  rw [if_neg (show ¬ n.kind = 33 by omega)]
  rw [if_neg (show ¬ n.kind = 34 by omega)]
  rw [if_neg (show ¬ n.kind = 35 by omega)]
  rw [if_neg (show ¬ n.kind = 36 by omega)]
  rw [if_neg (show ¬ n.kind = 37 by omega)]
  rw [if_pos h]
theorem kidz_any (A : Option Addr) (c : Nat) (ls : List LN) (w : World) (lo : Nat) (a : Nat) (z : Int) (h : RdN w lo A ls) (hn : ls.length ≤ maxLen) (hf : ∀ l ∈ ls, fitN l) (ha : a < ls.length) (hz : 0 ≤ z) (hi : z ≤ 9223372036854775807) :
    Calls Try.prog 73 #[.slice A ls.length c, .int .i64 a, .int .i64 z] w fun e w' => e = .returned (.int .i64 (kidK (ls.map LN.nd) a z.toNat)) ∧ w = w' :=
  kid_any A c ls w lo a z.toNat z (by omega) h hn hf ha (by unfold maxLen; omega)
theorem exprsz_any (A : Option Addr) (c : Nat) (ls : List LN) (w : World) (lo : Nat) (a : Nat) (z y : Int) (h : RdN w lo A ls) (hn : ls.length ≤ maxLen) (hf : ∀ l ∈ ls, fitN l) (ha : a < ls.length) (hz : 0 ≤ z) (hzy : z ≤ y) (hi : y ≤ 9223372036854775807) :
    Calls Try.prog 75 #[.slice A ls.length c, .int .i64 a, .int .i64 z, .int .i64 y] w fun e w' => e = .returned (.bool (kidsAll isExpr (ls.map LN.nd) a z.toNat (y.toNat - z.toNat))) ∧ w = w' :=
  exprs_any A c ls w lo a z.toNat y.toNat z y (by omega) (by omega) h hn hf ha (by omega) (by unfold maxLen; omega)
theorem bareN_any (kd ln vop vnum : Int) (vflt : Nat) (vstr : ByteArray) (ra ka : Option Addr) (rn rc kn kc : Nat) (op num flt str : Bool) (refs : Int) (w : World) (hr : rn ≤ 9223372036854775807) (W : World) (hW : Below W.heap.size W w) :
    Calls Try.prog 74 #[.agg #[.int .i64 kd, .int .i64 ln, .int .i64 vop, .int .i64 vnum, .float .f64 vflt, .string vstr, .slice ra rn rc, .slice ka kn kc], .bool op, .bool num, .bool flt, .bool str, .int .i64 refs] w fun e w' => e = .returned (.bool (bareC vop vnum vflt vstr rn op num flt str refs)) ∧ Below w.heap.size w w' ∧ Below W.heap.size W w' :=
  (bare_any kd ln vop vnum vflt vstr ra ka rn rc kn kc op num flt str refs w hr).mono fun _ _ ⟨h1, h2⟩ => ⟨h1, h2, hW.trans (h2.mono hW.size)⟩
end Go.Proofs.Ytcpjplkbmflglaa
