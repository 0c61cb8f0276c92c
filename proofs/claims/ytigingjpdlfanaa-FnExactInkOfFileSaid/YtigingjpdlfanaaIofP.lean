/-
  The ink of a file, in plain words.
-/
import Derived.Test.YtigingjpdlfanaaCoord
namespace Go.Proofs.Ytigingjpdlfanaa
set_option linter.unusedSimpArgs false
set_option linter.unusedVariables false
set_option maxRecDepth 20000
open Go.RowKit
open Go.ChangeShapes Go.WideShapes Go.Deep Go.Joins

def ch0 : Ch := ⟨⟨#[]⟩, ⟨#[]⟩, 0, 0⟩
def ptR (cs : List Ch) (x y t : Nat) (k : Int) (r : List Int) : Pt := ⟨coI (cs.getD x ch0) (r.getD x 0), coI (cs.getD y ch0) (r.getD y 0), k * r.getD t 0⟩
def iofP (cs : List Ch) (x y t : Nat) (k : Int) (s : List (List (List Int))) : List (List Pt) := s.map fun s => s.map (ptR cs x y t k)
def stI (cs : List Ch) (x y t : Nat) (k : Int) (l : List (Sl Int)) (j : Nat) : List Pt := (l.take j).map fun r => ptR cs x y t k r.l
def iofT (cs : List Ch) (x y t : Nat) (k : Int) (ss : List (Sl (Sl Int))) : List (List Pt) := ss.map fun s => s.l.map fun r => ptR cs x y t k r.l
section
variable {cs : List Ch} {x y t : Nat} {k : Int}
theorem stI_len {l : List (Sl Int)} {j : Nat} (h : j ≤ l.length) : (stI cs x y t k l j).length = j := by simp [stI, h]
theorem stI_next {l : List (Sl Int)} {j : Nat} (h : j < l.length) {q : Pt} (hq : ptR cs x y t k l[j].l = q) : stI cs x y t k l (j + 1) = stI cs x y t k l j ++ [q] := by
  unfold stI
  rw [List.take_succ_eq_append_getElem h, List.map_append, ← hq]
  rfl
theorem stI_all (l : List (Sl Int)) : stI cs x y t k l l.length = l.map fun r => ptR cs x y t k r.l := by unfold stI; rw [List.take_length]
theorem iofT_pl (ss : List (Sl (Sl Int))) : iofP cs x y t k (ss.map rowsK.pl) = iofT cs x y t k ss := by
  unfold iofP iofT
  rw [List.map_map]
  apply List.map_congr_left
  intro s _
  show (s.l.map rowK.pl).map _ = _
  rw [List.map_map]
  apply List.map_congr_left
  intro r _
  show ptR cs x y t k (rowK.pl r) = _
  rw [rowK_pl]
theorem iofT_next {ss : List (Sl (Sl Int))} {T : List St} {j : Nat} (h : j < ss.length) (hT : ptsOf T = iofT cs x y t k (ss.take j)) (q : St) (hq : q.l = ss[j].l.map fun r => ptR cs x y t k r.l) : ptsOf (T ++ [q]) = iofT cs x y t k (ss.take (j + 1)) := by
  unfold iofT at hT ⊢
  rw [List.take_succ_eq_append_getElem h, List.map_append, ← hT]
  simp [ptsOf, hq]
theorem iofT_each {ss : List (Sl (Sl Int))} {T : List St} (hT : ptsOf T = iofT cs x y t k ss) (h : ∀ s ∈ ss, s.l.length ≤ 60) : ∀ s ∈ T, s.l.length ≤ 1048576 := fun s hs => by
  have h1 : s.l ∈ iofT cs x y t k ss := hT ▸ List.mem_map_of_mem hs
  obtain ⟨q, hq, e⟩ := List.mem_map.1 h1
  have h2 := h q hq
  rw [← e, List.length_map]
  omega
end
theorem chIn_row {cs : List Ch} {r : List Int} {k : Nat} (hc : ∀ j (h : j < cs.length), chB cs[j] = true) (hr : RowOk cs r) (hk : k < cs.length) (hk2 : k < r.length) : ChIn cs[k] r[k] := by
  have h1 := hc k hk
  unfold chB at h1
  rw [Bool.and_eq_true, Bool.and_eq_true, Bool.and_eq_true, Bool.and_eq_true] at h1
  obtain ⟨_, _, h2, h3, h4⟩ := h1
  have h5 := inB_true h2
  have h6 := inB_true h3
  have h7 := inB_true (hr.2 k hk2 hk)
  simp at h4
  exact ⟨by omega, by omega, h4, h7.1, h7.2⟩
theorem getD_ch {cs : List Ch} {k : Nat} (h : k < cs.length) : cs.getD k ch0 = cs[k] := by simp [List.getD_eq_getElem?_getD, List.getElem?_eq_getElem h]
theorem getD_in {r : List Int} {k : Nat} (h : k < r.length) : r.getD k 0 = r[k] := by simp [List.getD_eq_getElem?_getD, List.getElem?_eq_getElem h]
theorem chs_ok {p : FlP} {f : Fl} (h : FileOk p) (hp : filePl f = p) : ∀ j (hj : j < f.ch.l.length), chB f.ch.l[j] = true := fun j hj => by
  subst hp
  exact ((fileOk_iff.1 h).2.2.2.2.1 j hj hj).1
def iofR (b : Bool) (p : FlP) (x y t : Int) : List (List Pt) × Int :=
  if b = true then (if 0 ≤ x ∧ 0 ≤ y ∧ 0 ≤ t then (if facI (p.ch.getD t.toNat ch0).unit = 0 then ([], 8) else (if inkB (iofP p.ch x.toNat y.toNat t.toNat (facI (p.ch.getD t.toNat ch0).unit) p.st) = true then (iofP p.ch x.toNat y.toNat t.toNat (facI (p.ch.getD t.toNat ch0).unit) p.st, 0) else ([], 2))) else ([], 3)) else ([], 1)
theorem iofR_bad (p : FlP) (x y t : Int) : iofR false p x y t = ([], 1) := rfl
theorem iofR_none {p : FlP} {x y t : Int} (h : ¬ (0 ≤ x ∧ 0 ≤ y ∧ 0 ≤ t)) : iofR true p x y t = ([], 3) := by unfold iofR; rw [if_pos rfl, if_neg h]
theorem iofR_unit {p : FlP} {x y t : Nat} (h : facI (p.ch.getD t ch0).unit = 0) : iofR true p x y t = ([], 8) := by
  unfold iofR
  rw [if_pos rfl, if_pos ⟨by omega, by omega, by omega⟩, if_pos (by simpa using h)]
theorem iofR_out {p : FlP} {x y t : Nat} {k : Int} (h : facI (p.ch.getD t ch0).unit = k) (hk : k ≠ 0) (hv : inkB (iofP p.ch x y t k p.st) = false) : iofR true p x y t = ([], 2) := by
  subst h
  unfold iofR
  rw [if_pos rfl, if_pos ⟨by omega, by omega, by omega⟩]
  simp only [Int.toNat_natCast]
  rw [if_neg hk, hv]
  rfl
theorem iofR_yes {p : FlP} {x y t : Nat} {k : Int} (h : facI (p.ch.getD t ch0).unit = k) (hk : k ≠ 0) (hv : inkB (iofP p.ch x y t k p.st) = true) : iofR true p x y t = (iofP p.ch x y t k p.st, 0) := by
  subst h
  unfold iofR
  rw [if_pos rfl, if_pos ⟨by omega, by omega, by omega⟩]
  simp only [Int.toNat_natCast]
  rw [if_neg hk, hv]
  rfl
theorem iofR_small (b : Bool) (p : FlP) (x y t : Int) : smallP (iofR b p x y t).1 := by
  unfold iofR
  repeat' split
  all_goals first | exact smallP_nil | (rename_i h; exact smallP_of h)

theorem InkOwn.upto {w : World} {lo hi hi' : Nat} {v : Value} {S : List St} (h : InkOwn w lo hi v S) (hh : hi ≤ hi') : InkOwn w lo hi' v S :=
  ⟨h.row, fun k hk => Nat.lt_of_lt_of_le (h.top k hk) hh, h.inner.mono hh, h.apt⟩
theorem facI_none {u : ByteArray} (h : facI u = 0) : (u.toList == [109, 115]) = false ∧ (u.toList == [99, 115]) = false ∧ (u.toList == [115]) = false := by
  unfold facI at h
  cases h1 : (u.toList == [109, 115])
  · rw [h1] at h
    cases h2 : (u.toList == [99, 115])
    · rw [h2] at h
      cases h3 : (u.toList == [115])
      · exact ⟨rfl, rfl, rfl⟩
      · rw [h3] at h; simp at h
    · rw [h2] at h; simp at h
  · rw [h1] at h; simp at h
end Go.Proofs.Ytigingjpdlfanaa
