/-
  A file with one note more.
-/
import Derived.Test.YtmdmjnhebbhjbaaCpI
import Derived.Test.YtmdmjnhebbhjbaaCpS
import Derived.Test.YtmdmjnhebbhjbaaCpZ
import Derived.Test.YtmdmjnhebbhjbaaFTxP
import Derived.Test.YtmdmjnhebbhjbaaColumn
namespace Go.Proofs.Ytmdmjnhebbhjbaa
set_option linter.unusedSimpArgs false
set_option linter.unusedVariables false
set_option maxRecDepth 20000
open Go.RowKit
open Go.ChangeShapes Go.WideShapes Go.Deep Go.Joins

theorem iCopy_L (f : Fl) (p : FlP) (w : World) (h : FileRd w f) (hp : filePl f = p) (hok : FileOk p) :
    Calls Try.prog 26 #[.agg #[.slice f.ch.A f.ch.l.length f.ch.c, .slice f.st.A f.st.l.length f.st.c, .slice f.no.A f.no.l.length f.no.c]] w fun e w' => ∃ g : Fl, e = .returned (.agg #[.slice g.ch.A g.ch.l.length g.ch.c, .slice g.st.A g.st.l.length g.st.c, .slice g.no.A g.no.l.length g.no.c]) ∧ filePl g = p ∧ FileMine w' w.heap.size w'.heap.size g ∧ Below w.heap.size w w' := by
  obtain ⟨⟨A1, c1, cs⟩, ⟨A2, c2, ss⟩, ⟨A3, c3, ns⟩⟩ := f
  exact copyFile_go A1 A2 A3 c1 c2 c3 _ _ _ cs ss ns p w rfl rfl rfl h hp hok
theorem sCopy_L (b : Nat) (f : Fl) (p : FlP) (w : World) (hbx : FBox w b f) (h : FileRd w f) (hp : filePl f = p) (hok : FileOk p) :
    Calls Try.prog 19 #[.pointer (some ⟨b, 0, none⟩)] w fun e w' => ∃ g : Fl, e = .returned (.agg #[.slice g.ch.A g.ch.l.length g.ch.c, .slice g.st.A g.st.l.length g.st.c, .slice g.no.A g.no.l.length g.no.c]) ∧ filePl g = p ∧ FileMine w' w.heap.size w'.heap.size g ∧ Below w.heap.size w w' := by
  obtain ⟨⟨A1, c1, cs⟩, ⟨A2, c2, ss⟩, ⟨A3, c3, ns⟩⟩ := f
  rcases Nat.eq_zero_or_pos ns.length with h0 | h0
  · exact l03Own_z A1 A2 A3 c1 c2 c3 _ _ _ cs ss ns p w rfl rfl rfl h hp hok b hbx h0
  · exact l03Own_n A1 A2 A3 c1 c2 c3 _ _ _ cs ss ns p w rfl rfl rfl h hp hok b hbx h0
theorem pushNo_fp {C : Sl Ch} {S : Sl (Sl (Sl Int))} {A3 : Option Addr} {c3 : Nat} {ns : List No} {a : No} {g cap M b : Nat} (hat : (Value.slice A3 ns.length c3).ownBlock = some g ∨ g = M) (hb : b ∈ fileFp ⟨C, S, ⟨some ⟨g, 0, none⟩, cap, ns ++ [a]⟩⟩) : b ∈ fileFp ⟨C, S, ⟨A3, c3, ns⟩⟩ ∨ b = M := by
  rcases List.mem_append.1 hb with hb | hb
  · exact .inl (mem_fp1 hb)
  · rcases List.mem_append.1 hb with hb | hb
    · exact .inl (mem_fp2 hb)
    · rcases push_fp (K := Kd.flat noC 3 39) (T := 0) hat hb with h1 | h1 | h1
      · exact .inl (mem_fp3 h1)
      · simp [Kd.flat] at h1
      · exact .inr h1
def anR (b : Bool) (p : FlP) (n : No) : FlP × Int :=
  if b = true then (if noB p.st.length n = true then (if nameB n.text.data.toList = true then (if 12 ≤ p.no.length then (fl0, 5) else (addNo p n, 0)) else (fl0, 7)) else (fl0, 2)) else (fl0, 1)
theorem anR_1 (p : FlP) (n : No) : anR false p n = (fl0, 1) := rfl
theorem anR_2 {p : FlP} {n : No} (h : noB p.st.length n = false) : anR true p n = (fl0, 2) := by simp [anR, h]
theorem anR_7 {p : FlP} {n : No} (h : noB p.st.length n = true) (h2 : nameB n.text.data.toList = false) : anR true p n = (fl0, 7) := by simp [anR, h, h2]
theorem anR_5 {p : FlP} {n : No} (h : noB p.st.length n = true) (h2 : nameB n.text.data.toList = true) (h3 : 12 ≤ p.no.length) : anR true p n = (fl0, 5) := by simp [anR, h, h2, h3]
theorem anR_0 {p : FlP} {n : No} (h : noB p.st.length n = true) (h2 : nameB n.text.data.toList = true) (h3 : ¬ 12 ≤ p.no.length) : anR true p n = (addNo p n, 0) := by rw [anR, if_pos rfl, if_pos h, if_pos h2, if_neg h3]
theorem PlSz.fl0 : PlSz fl0 := ⟨by simp [Go.Proofs.Ytmdmjnhebbhjbaa.fl0], by simp [Go.Proofs.Ytmdmjnhebbhjbaa.fl0], by simp [Go.Proofs.Ytmdmjnhebbhjbaa.fl0], by simp [Go.Proofs.Ytmdmjnhebbhjbaa.fl0, cntJ], by simp [Go.Proofs.Ytmdmjnhebbhjbaa.fl0]⟩
theorem anR_sz {b : Bool} {p : FlP} {n : No} (h : PlSz p) : PlSz (anR b p n).1 := by
  unfold anR
  repeat' split
  all_goals first | exact PlSz.fl0 | skip
  rename_i h9
  refine ⟨h.ch, h.st, h.rows, h.sum, ?_⟩
  show (p.no ++ [n]).length ≤ 1048576
  rw [List.length_append]
  simp only [List.length_singleton]
  omega
end Go.Proofs.Ytmdmjnhebbhjbaa
