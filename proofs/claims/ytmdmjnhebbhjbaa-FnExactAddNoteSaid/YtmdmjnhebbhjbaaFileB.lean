/-
  What a valid file is, in plain words.
-/
import Derived.Test.YtmdmjnhebbhjbaaFilea
import Derived.Test.YtmdmjnhebbhjbaaName
namespace Go.Proofs.Ytmdmjnhebbhjbaa
set_option linter.unusedSimpArgs false
set_option linter.unusedVariables false
set_option maxRecDepth 20000
open Go.RowKit
open Go.ChangeShapes Go.WideShapes Go.Deep Go.Joins

def chB (c : Ch) : Bool := nameB c.name.data.toList && (nameB c.unit.data.toList && (inB c.low (-1000000000) 1000000000 && (inB c.high (-1000000000) 1000000000 && decide (c.low < c.high))))
def hasName (s : ByteArray) (c : Ch) : Bool := c.name.toList == s.toList
/-- the first channel of this name; how many there are, if there is none -/
def idxC (cs : List Ch) (s : ByteArray) : Nat := cs.findIdx (hasName s)
def idxZ (cs : List Ch) (s : ByteArray) : Int := if idxC cs s < cs.length then (idxC cs s : Int) else -1
def RowOk (cs : List Ch) (r : List Int) : Prop := r.length = cs.length ∧ ∀ k (h : k < r.length) (h2 : k < cs.length), inB r[k] cs[k].low cs[k].high = true
structure StOk (cs : List Ch) (s : List (List Int)) : Prop where
  lo : 1 ≤ s.length
  hi : s.length ≤ 60
  rows : ∀ r ∈ s, RowOk cs r
def noB (m : Nat) (n : No) : Bool := decide (0 ≤ n.fr ∧ n.fr < n.til ∧ n.til ≤ (m : Int))
structure FileOk (p : FlP) : Prop where
  c1 : 1 ≤ p.ch.length
  c6 : p.ch.length ≤ 6
  s16 : p.st.length ≤ 16
  n12 : p.no.length ≤ 12
  chs : ∀ k (h : k < p.ch.length), chB p.ch[k] = true ∧ idxC p.ch p.ch[k].name = k
  sts : ∀ s ∈ p.st, StOk p.ch s
  nos : ∀ n ∈ p.no, noB p.st.length n = true ∧ nameB n.text.data.toList = true
/-- the texts of a file are not too long -/
structure PlTx (p : FlP) : Prop where
  chs : ∀ c ∈ p.ch, c.name.size ≤ 1048576 ∧ c.unit.size ≤ 1048576
  nos : ∀ n ∈ p.no, n.text.size ≤ 1048576
theorem idxC_step {cs : List Ch} {s : ByteArray} {k : Nat} (h : k ≤ idxC cs s) (hk : k < cs.length) (hn : hasName s cs[k] = false) : k + 1 ≤ idxC cs s := by
  rcases Nat.lt_or_eq_of_le h with h1 | h1
  · exact h1
  · exfalso
    have h2 : idxC cs s < cs.length := by rw [← h1]; exact hk
    have h3 := List.findIdx_getElem (w := h2)
    have h4 : hasName s cs[k] = true := by
      have e : cs[k] = cs[idxC cs s] := by congr 1
      rw [e]; exact h3
    rw [h4] at hn
    exact absurd hn (by simp)
theorem idxC_hit {cs : List Ch} {s : ByteArray} {k : Nat} (h : k ≤ idxC cs s) (hk : k < cs.length) (hn : hasName s cs[k] = true) : idxC cs s = k := by
  rcases Nat.lt_or_ge k (idxC cs s) with h1 | h1
  · have h2 : hasName s cs[k] = false := List.not_of_lt_findIdx (p := hasName s) (xs := cs) h1
    rw [h2] at hn
    exact absurd hn (by simp)
  · omega
theorem idxC_le (cs : List Ch) (s : ByteArray) : idxC cs s ≤ cs.length := List.findIdx_le_length
theorem idxZ_hit {cs : List Ch} {s : ByteArray} {k : Nat} (h : k ≤ idxC cs s) (hk : k < cs.length) (hn : hasName s cs[k] = true) : idxZ cs s = (k : Int) := by
  have := idxC_hit h hk hn
  unfold idxZ
  rw [if_pos (by omega), this]
theorem idxZ_none {cs : List Ch} {s : ByteArray} (h : cs.length ≤ idxC cs s) : idxZ cs s = -1 := by
  unfold idxZ
  rw [if_neg (by omega)]
theorem rowB_stop {cs : List Ch} {r : List Int} {k : Nat} (h1 : k < r.length) (h2 : k < cs.length) (h : inB r[k] cs[k].low cs[k].high = false) : ¬ RowOk cs r := fun hr => by
  have := hr.2 k h1 h2
  rw [h] at this
  exact absurd this (by simp)
end Go.Proofs.Ytmdmjnhebbhjbaa
