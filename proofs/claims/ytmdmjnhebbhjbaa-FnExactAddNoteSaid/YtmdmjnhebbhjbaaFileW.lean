/-
  What the laws with files share: marks of a file of known contents; a file beside others that are marked.
-/
import Derived.Test.YtmdmjnhebbhjbaaFilea
import Derived.Test.YtmdmjnhebbhjbaaPtsa
namespace Go.Proofs.Ytmdmjnhebbhjbaa
set_option linter.unusedSimpArgs false
set_option linter.unusedVariables false
set_option maxRecDepth 20000
open Go.RowKit
open Go.ChangeShapes Go.WideShapes Go.Deep Go.Joins

theorem FileMine.keepChg {w w' : World} {lo hi lo' hi' : Nat} {f : Fl} (h : FileMine w lo hi f) (hc : Chg lo' hi' w w') (hd : hi ≤ lo' ∨ hi' ≤ lo) : FileMine w' lo hi f := by
  have hk : ∀ b ∈ fileFp f, b < w.heap.size → w'.heap[b]? = w.heap[b]? := fun b hb hl => hc.block b hl (by have := h.rng b hb; omega)
  exact ⟨⟨chsK_ok.keep h.ch.own fun b hb => hk b (mem_fp1 hb) (chsK_ok.lt h.ch.own b hb), h.ch.apart, h.ch.rng⟩, ⟨stK_ok.keep h.st.own fun b hb => hk b (mem_fp2 hb) (stK_ok.lt h.st.own b hb), h.st.apart, h.st.rng⟩, ⟨nosK_ok.keep h.no.own fun b hb => hk b (mem_fp3 hb) (nosK_ok.lt h.no.own b hb), h.no.apart, h.no.rng⟩, h.d1, h.d2, h.d3⟩

theorem ChgF.toChg {fp : List Nat} {lo hi : Nat} {w w' : World} (h : ChgF fp w w') (hr : ∀ b ∈ fp, lo ≤ b ∧ b < hi) : Chg lo hi w w' :=
  ⟨h.os, h.tape, h.output, h.size, fun k hk hn => h.block k hk fun hb => by have := hr k hb; omega⟩
theorem PlSz.cnt {p : FlP} (h : PlSz p) : cntPl p ≤ 33554432 := by
  have h1 := h.ch
  have h2 := h.sum
  have h3 := h.no
  unfold cntPl; omega
theorem markFile_L (f : Fl) (lo hi : Nat) (p : FlP) (mm : Nat) (w : World) (h : FileMine w lo hi f) (hh : hi ≤ w.heap.size) (hp : filePl f = p) (hs : PlSz p) (hm : 1 + cntPl p = mm) :
    Calls Try.prog 11 #[.agg #[.slice f.ch.A f.ch.l.length f.ch.c, .slice f.st.A f.st.l.length f.st.c, .slice f.no.A f.no.l.length f.no.c], .int .i64 1] w fun e w' => e = .returned (.int .i64 (mm : Int)) ∧ FileMine w' lo hi (mkFile 1 f) ∧ Chg lo hi w w' := by
  have h1 := markFile_any f lo hi 1 w h hh (FileSz.of_pl hp hs) (by omega) (by omega)
  rw [cnt_of_pl hp, hm] at h1
  exact h1.mono fun e w' ⟨he, h2, h3⟩ => ⟨he, h2, h3.toChg h.rng⟩
theorem heldFile_L (f : Fl) (p : FlP) (mm : Nat) (w : World) (h : FileRd w (mkFile 1 f)) (hp : filePl f = p) (hs : PlSz p) (hm : 1 + cntPl p = mm) :
    Calls Try.prog 12 #[.agg #[.slice f.ch.A f.ch.l.length f.ch.c, .slice f.st.A f.st.l.length f.st.c, .slice f.no.A f.no.l.length f.no.c], .int .i64 1] w fun e w' => e = .returned (.int .i64 (mm : Int)) ∧ Below w.heap.size w w' := by
  have h1 := heldFile_any f 1 w h (FileSz.of_pl hp hs) (by omega) (by omega)
  rw [cnt_of_pl hp, hm] at h1
  exact h1
theorem eqFile_L (f g : Fl) (p : FlP) (w : World) (hf : FileRd w f) (hg : FileRd w g) (hp : filePl f = p) (hq : filePl g = p) (hs : PlSz p) :
    Calls Try.prog 10 #[.agg #[.slice f.ch.A f.ch.l.length f.ch.c, .slice f.st.A f.st.l.length f.st.c, .slice f.no.A f.no.l.length f.no.c], .agg #[.slice g.ch.A g.ch.l.length g.ch.c, .slice g.st.A g.st.l.length g.st.c, .slice g.no.A g.no.l.length g.no.c]] w fun e w' => e = .returned (.bool true) ∧ Below w.heap.size w w' :=
  eqFile_same f g w hf hg (hp.trans hq.symm) (FileSz.of_pl hp hs)
theorem FileRd.alloc {w : World} {f : Fl} (h : FileRd w f) (b : Obj) : FileRd (w.alloc b) f := h.below (Below.alloc (Below.refl _ _) (Nat.le_refl _) b)
theorem FileRd.drew {w : World} {f : Fl} (h : FileRd w f) : FileRd w.drew f := h.below (Below.drew (Below.refl _ _))
theorem FileMine.alloc {w : World} {lo hi : Nat} {f : Fl} (h : FileMine w lo hi f) (b : Obj) : FileMine (w.alloc b) lo hi f := h.next (Below.alloc (Below.refl _ _) (Nat.le_refl _) b)
end Go.Proofs.Ytmdmjnhebbhjbaa
