import Derived.Test.YtjcbpfhlgebgdaaDoorE16
import Derived.Laws.CopyRow
import Derived.Lib.Overlaps
/- What slices.Insert needs: copies of rows, a test for overlap, appended zeros; elements of any number of cells. -/
namespace Go.Eng
set_option linter.unusedSimpArgs false
set_option linter.unusedVariables false
open Go.RowKit Go.Builtin

theorem cell_of {w : World} {g : Nat} {cur : Array Value} {t : TypeId} {fz : Nat × Nat} (hg : w.heap[g]? = some (.cells cur t fz)) (o : Nat) : w.cell? ⟨g, o, none⟩ = cur[o]? := by
  simp [World.cell?, hg]






/-- The cells of a row that were read are those of its block. -/
theorem flatC_cur {w : World} {pr : Nat → Nat → Prop} {lam : Nat → Option Nat} {g k : Nat} {ys : List Value} {cur : Array Value} {t : TypeId} {fz : Nat × Nat} (hg : w.heap[g]? = some (.cells cur t fz)) (hys : ∀ y ∈ ys, y.cells.size = k)
    (h : ∀ (j : Nat) z, (flatC ys)[j]? = some z → Env.at ⟨w, pr, lam⟩ g (0 + j) z ∧ z.oneCell' = true) : flatC ys = cur.toList.take (ys.length * k) := by
  have hl := flatC_length hys
  have hget : ∀ (j : Nat) z, (flatC ys)[j]? = some z → cur.toList[j]? = some z := fun j z hz => by
    have h1 := (h j z hz).1.1
    rw [Nat.zero_add] at h1
    change w.cell? ⟨g, j, none⟩ = some z at h1
    rw [cell_of hg] at h1
    rw [Array.getElem?_toList]; exact h1
  have hle : (flatC ys).length ≤ cur.toList.length := by
    rcases Nat.lt_or_ge cur.toList.length (flatC ys).length with q | q
    · have := hget cur.toList.length _ (List.getElem?_eq_getElem q)
      rw [List.getElem?_eq_none (Nat.le_refl _)] at this; cases this
    · exact q
  refine List.ext_getElem? fun j => ?_
  rw [List.getElem?_take]
  by_cases hj : j < ys.length * k
  · rw [if_pos hj]
    have hj' : j < (flatC ys).length := by omega
    rw [List.getElem?_eq_getElem hj', hget j _ (List.getElem?_eq_getElem hj')]
  · rw [if_neg hj, List.getElem?_eq_none (by omega)]

end Go.Eng
