/- The chapter's examples: plain facts. No program is imported. -/
import Derived.Test.YtnbalamacpcanaaDoorTreeS
namespace Fm
open Go Go.RowKit

def ex1 : Tr := .node 0 5 [] []
def ex2 : Tr := .node 1 0 [97, 37] []
def ex3 : Tr := .node 2 0 [] [.node 0 (-1) [] [], .node 2 0 [] []]
theorem ex1_right : rightT ex1 = true := by
  simp [ex1, rightT, kindsT_node, deepT_node, deepL_nil, partsT_node, partsL_nil, plainB]
theorem ex2_right : rightT ex2 = true := by
  simp [ex2, rightT, kindsT_node, deepT_node, deepL_nil, partsT_node, partsL_nil, plainB]
theorem ex3_right : rightT ex3 = true := by
  simp [ex3, rightT, kindsT_node, deepT_node, deepL_nil, deepL_cons, partsT_node, partsL_nil, partsL_cons, plainB]
theorem ex1_bytes : bytesT ex1 = [0, 10] := by
  rw [ex1, bytesT_node]; decide
theorem ex2_bytes : bytesT ex2 = [2, 4, 97, 37] := by
  rw [ex2, bytesT_node]; decide
theorem bytesL_two (t u : Tr) : bytesL [t, u] = bytesT t ++ bytesT u := by simp [bytesL]
theorem ex3_bytes : bytesT ex3 = [4, 4, 0, 1, 4, 0] := by
  rw [ex3, bytesT_node, if_neg (by decide), if_neg (by decide), bytesL_two, bytesT_node, bytesT_node, if_pos rfl, if_neg (by decide), if_neg (by decide), bytesL_nil]; decide
theorem ex1_show : showT ex1 = [53] := by
  rw [ex1, showT_node, if_pos rfl]; simp [Lib.itoa, Lib.decDigits]
theorem ex2_show : showT ex2 = [34, 97, 37, 50, 53, 34] := by
  rw [ex2, showT_node, if_neg (by decide), if_pos rfl]; decide
theorem showL_two (t u : Tr) : showL [t, u] = showT t ++ 44 :: showT u := by simp [showL, joinB]
theorem ex3_show : showT ex3 = [91, 45, 49, 44, 91, 93, 93] := by
  rw [ex3, showT_node, if_neg (by decide), if_neg (by decide), showL_two, showT_node, showT_node, if_pos rfl, if_neg (by decide), if_neg (by decide), showL_nil]
  simp [Lib.itoa, Lib.decDigits]
theorem ex1_nums : NumsT ex1 := .node _ _ _ _ (by unfold isI64; omega) (fun t h => by cases h)
theorem take_six : takeV' [6] = none := by
  have h : hdN [6] = some (3, []) := by decide
  unfold takeV'
  rw [readT_bad h (by omega)]
theorem take_more : takeV' [0, 10, 0] = some (ex1, [0]) := by
  have h := takeV_bytes ex1_right ex1_nums [0]
  rw [ex1_bytes] at h
  exact h
theorem takeV_whole {t : Tr} {bs : List UInt8} (h : rightT t = true) (hn : NumsT t) (hb : bytesT t = bs) : takeV' bs = some (t, []) := by
  have h := takeV_bytes h hn []
  rw [List.append_nil, hb] at h
  exact h
end Fm
