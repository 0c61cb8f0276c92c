/-
  The file of an ink, in plain words; refusals of program and reference. The file of a valid ink, as the program makes it. The file of an ink, as the reference makes it: refusals. The file of a valid ink, as the reference makes it. What the law of FileOfInk asks: sizes of an ink's file; a file beside an ink that is marked. FileOfInk: what program and reference answer, as one plain function. What the laws with a file for a result share: marks of a file of known contents.
-/
import Derived.Test.YtmdmjnhebbhjbaaFilea
import Derived.Test.YtmdmjnhebbhjbaaFileW
import Derived.Test.YtmdmjnhebbhjbaaInkOka
import Derived.Test.YtmdmjnhebbhjbaaInkMka
namespace Go.Proofs.Ytmdmjnhebbhjbaa
set_option linter.unusedSimpArgs false
set_option linter.unusedVariables false
set_option maxRecDepth 20000
open Go.RowKit
open Go.ChangeShapes Go.WideShapes Go.Deep Go.Joins

theorem row_info : (Try.prog.info? 78).map (fun i => (i.zero, i.size, i.bytes)) = some (some (.slice none 0 0), 1, 24) := by kernel_rfl
theorem rows_info : (Try.prog.info? 76).map (fun i => (i.zero, i.size, i.bytes)) = some (some (.agg #[.slice none 0 0]), 1, 24) := by kernel_rfl
theorem elem_row : Elem (hdC (α := Int)) 78 1 24 where
  len _ := rfl
  one a u hu := by simp [hdC, Sl.val] at hu; subst hu; rfl
  pos := by omega
  info := by
    obtain ⟨i, h1, h2, h3, h4⟩ := info_parts row_info
    exact ⟨i, _, h1, h2, h3, h4, rfl⟩
theorem elem_rows : Elem (hdC (α := Sl Int)) 76 1 24 where
  len _ := rfl
  one a u hu := by simp [hdC, Sl.val] at hu; subst hu; rfl
  pos := by omega
  info := by
    obtain ⟨i, h1, h2, h3, h4⟩ := info_parts rows_info
    exact ⟨i, _, h1, h2, h3, h4, rfl⟩
def rowPt (p : Pt) : List Int := [p.x, p.y, p.t]
def inkSt (P : List (List Pt)) : List (List (List Int)) := P.map fun l => l.map rowPt
def chs3 : List Ch := [⟨⟨#[120]⟩, ⟨#[100, 111, 116]⟩, 0, 4095⟩, ⟨⟨#[121]⟩, ⟨#[100, 111, 116]⟩, 0, 4095⟩, ⟨⟨#[116]⟩, ⟨#[109, 115]⟩, 0, 3600000⟩]
end Go.Proofs.Ytmdmjnhebbhjbaa
namespace Go.Proofs.Ytmdmjnhebbhjbaa
set_option linter.unusedSimpArgs false
set_option linter.unusedVariables false
set_option maxRecDepth 20000
open Go.RowKit
open Go.ChangeShapes Go.WideShapes Go.Deep Go.Joins

theorem ChgF.setCell (w : World) (g o : Nat) (u : Value) : ChgF [g] w (w.setCell ⟨g, o, none⟩ u) :=
  ⟨rfl, rfl, rfl, by simp [World.setCell], fun k hk hn => Below.heap_setCell w _ u k (by simpa using hn)⟩
theorem rowsK_pl_push {r : Sl (Sl Int)} {l : List Pt} {j : Nat} (hj : j < l.length) (h : rowsK.pl r = (l.take j).map rowPt) {A A2 : Option Addr} {c c2 : Nat} : rowsK.pl ⟨A2, c2, r.l ++ [⟨A, c, rowPt l[j]⟩]⟩ = (l.take (j + 1)).map rowPt := by
  have h1 : rowsK.pl ⟨A2, c2, r.l ++ [⟨A, c, rowPt l[j]⟩]⟩ = rowsK.pl r ++ [rowPt l[j]] := by
    show (r.l ++ [_]).map rowK.pl = r.l.map rowK.pl ++ [rowPt l[j]]
    rw [List.map_append, List.map_singleton, rowK_pl]
  rw [h1, h, List.take_succ_eq_append_getElem hj, List.map_append]
  rfl
theorem stK_pl_push {s : Sl (Sl (Sl Int))} {P : List (List Pt)} {k : Nat} (hk : k < P.length) (h : stK.pl s = inkSt (P.take k)) {r : Sl (Sl Int)} (hr : rowsK.pl r = P[k].map rowPt) {A2 : Option Addr} {c2 : Nat} : stK.pl ⟨A2, c2, s.l ++ [r]⟩ = inkSt (P.take (k + 1)) := by
  have h1 : stK.pl ⟨A2, c2, s.l ++ [r]⟩ = stK.pl s ++ [P[k].map rowPt] := by
    show (s.l ++ [_]).map rowsK.pl = s.l.map rowsK.pl ++ [_]
    rw [List.map_append, List.map_singleton, hr]
  rw [h1, h, List.take_succ_eq_append_getElem hk]
  simp only [inkSt, List.map_append, List.map_singleton]
theorem file_fin {wo wf : World} {x m lo : Nat} {st : Sl (Sl (Sl Int))} (hc : ChgF [x] wo wf) (hx : x < m) (hlo : lo ≤ m) (hm : Bk wo m 74 (rowOf chC chs3).toArray) (hs : Mine stK wo (m + 1 + 1) wo.heap.size st) :
    FileMine wf lo wf.heap.size ⟨⟨some ⟨m, 0, none⟩, 3, chs3⟩, st, ⟨none, 0, []⟩⟩ := by
  have hml := hm.lt
  have hsz := hc.size
  have z : ∀ L : List Ch, L.flatMap (fun _ => ([] : List Nat)) = [] := fun L => by simp
  have hfp : chsK.fp ⟨some ⟨m, 0, none⟩, 3, chs3⟩ = [m] := rfl
  have hnp : nosK.fp ⟨none, 0, []⟩ = [] := rfl
  have hst : Mine stK wf (m + 1 + 1) wo.heap.size st := hs.chg stK_ok hc fun b hb hm2 => by have := hs.rng b hb; simp at hm2; omega
  refine ⟨Mine.fresh (l := chs3) chC_len (hc.bk hm (by simp; omega)) (by show 3 ≤ maxLen; decide) hlo (by omega), hst.low (by omega) hsz, Mine.nil _ _ _ _ _, fun b hb => ?_, fun b hb => ?_, fun b hb => ?_⟩
  · rw [hfp, List.mem_singleton] at hb
    subst hb
    intro h2
    have := hs.rng _ h2
    omega
  · show b ∉ nosK.fp ⟨none, 0, []⟩
    rw [hnp]; simp
  · show b ∉ nosK.fp ⟨none, 0, []⟩
    rw [hnp]; simp
end Go.Proofs.Ytmdmjnhebbhjbaa
namespace Go.Proofs.Ytmdmjnhebbhjbaa
set_option linter.unusedSimpArgs false
set_option linter.unusedVariables false
set_option maxRecDepth 20000
open Go.RowKit
open Go.ChangeShapes Go.WideShapes Go.Deep Go.Joins

end Go.Proofs.Ytmdmjnhebbhjbaa
namespace Go.Proofs.Ytmdmjnhebbhjbaa
set_option linter.unusedSimpArgs false
set_option linter.unusedVariables false
set_option maxRecDepth 20000
open Go.RowKit
open Go.ChangeShapes Go.WideShapes Go.Deep Go.Joins

end Go.Proofs.Ytmdmjnhebbhjbaa
namespace Go.Proofs.Ytmdmjnhebbhjbaa
set_option linter.unusedSimpArgs false
set_option linter.unusedVariables false
set_option maxRecDepth 20000
open Go.RowKit
open Go.ChangeShapes Go.WideShapes Go.Deep Go.Joins

def noFile : FlP := ⟨[], [], []⟩
def foiR (P : List (List Pt)) : FlP × Int := if inkB P = true then (⟨chs3, inkSt P, []⟩, 0) else (noFile, 1)
theorem cntI_pts (l : List Pt) : cntI (l.map rowPt) = 3 * l.length := by
  induction l with
  | nil => rfl
  | cons p l ih =>
    show 3 + cntI (l.map rowPt) = _
    rw [ih, List.length_cons]; omega
theorem cntJ_ink : ∀ (P : List (List Pt)) (k : Nat), P.length ≤ k → (∀ l ∈ P, l.length ≤ 60) → cntJ (inkSt P) ≤ 180 * k
  | [], k, _, _ => by show 0 ≤ _; omega
  | l :: P, 0, h, _ => by simp at h
  | l :: P, k + 1, h, hl => by
    have h1 := cntJ_ink P k (by simpa using h) fun x hx => hl x (List.mem_cons_of_mem _ hx)
    have h2 := hl l (List.mem_cons_self ..)
    show cntI (l.map rowPt) + cntJ (inkSt P) ≤ _
    rw [cntI_pts]; omega
theorem foi_sz (P : List (List Pt)) : PlSz (foiR P).1 := by
  unfold foiR
  split
  · rename_i h
    obtain ⟨h1, h2⟩ := smallP_of h
    have h3 := cntJ_ink P 16 h1 h2
    refine ⟨by show 3 ≤ _; omega, by show (inkSt P).length ≤ _; simp [inkSt]; omega, fun s hs => ?_, by show cntJ (inkSt P) ≤ _; omega, by show 0 ≤ _; omega⟩
    obtain ⟨l, hl, rfl⟩ := List.mem_map.1 hs
    have h4 := h2 l hl
    refine ⟨by rw [List.length_map]; omega, fun r hr => ?_, by rw [cntI_pts]; omega⟩
    obtain ⟨p, _, rfl⟩ := List.mem_map.1 hr
    show 3 ≤ _
    omega
  · exact ⟨by show 0 ≤ _; omega, by show 0 ≤ _; omega, fun s hs => by simp [noFile] at hs, by show 0 ≤ _; omega, by show 0 ≤ _; omega⟩
theorem noFile_mine (w : World) (lo hi : Nat) : FileMine w lo hi ⟨⟨none, 0, []⟩, ⟨none, 0, []⟩, ⟨none, 0, []⟩⟩ :=
  ⟨Mine.nil _ _ _ _ _, Mine.nil _ _ _ _ _, Mine.nil _ _ _ _ _, fun b hb => by simp [chsK, Kd.sl, Sl.val, Value.ownBlock] at hb, fun b hb => by simp [chsK, Kd.sl, Sl.val, Value.ownBlock] at hb, fun b hb => by simp [stK, Kd.sl, Sl.val, Value.ownBlock] at hb⟩
def FoiPost (w : World) (p : FlP) (code : Int) (e : Ending) (w' : World) : Prop :=
  ∃ f : Fl, e = .returned (.tuple #[.agg #[.slice f.ch.A f.ch.l.length f.ch.c, .slice f.st.A f.st.l.length f.st.c, .slice f.no.A f.no.l.length f.no.c], .int .i64 code]) ∧ filePl f = p ∧ FileMine w' w.heap.size w'.heap.size f ∧ Below w.heap.size w w'
end Go.Proofs.Ytmdmjnhebbhjbaa
