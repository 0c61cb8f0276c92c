/-
  What the laws with an ink for a result share: the marks of a small ink.
-/
import Derived.Test.YtnmmnikoogjhoaaInkMarkS
import Derived.Test.YtnmmnikoogjhoaaCut
namespace Go.Proofs.Ytnmmnikoogjhoaa
set_option linter.unusedSimpArgs false
set_option linter.unusedVariables false
set_option maxRecDepth 20000
open Go.RowKit
open Go.ChangeShapes Go.WideShapes Go.Deep Go.Joins

/-- an ink as small as a valid one -/
def smallP (L : List (List Pt)) : Prop := L.length ≤ 16 ∧ ∀ l ∈ L, l.length ≤ 60
theorem smallP_nil : smallP [] := ⟨by simp, by simp⟩
theorem smallP_of {P : List (List Pt)} (h : inkB P = true) : smallP P := by
  obtain ⟨S, rfl⟩ : ∃ S, ptsOf S = P := ⟨P.map fun l => ⟨none, 0, l⟩, by unfold ptsOf; rw [List.map_map]; exact List.map_id _⟩
  obtain ⟨h1, h2⟩ := inkB_true h
  refine ⟨by rw [ptsOf_len]; exact h1, fun l hl => ?_⟩
  obtain ⟨k, hk, rfl⟩ := List.mem_iff_getElem.1 hl
  have hk2 : k < S.length := by rw [ptsOf_len] at hk; exact hk
  rw [ptsOf_get S k hk hk2]
  exact (strB_true (h2 k hk2)).2.1
theorem smallP_sub {P Q : List (List Pt)} (h : smallP P) (hl : Q.length ≤ P.length) (hm : ∀ l ∈ Q, l ∈ P) : smallP Q := ⟨Nat.le_trans hl h.1, fun l hl => h.2 l (hm l hl)⟩
theorem small_each {T : List St} {L : List (List Pt)} (h : smallP L) (hp : ptsOf T = L) : ∀ s ∈ T, s.l.length ≤ 60 := fun s hs => h.2 _ (hp ▸ List.mem_map_of_mem hs)
theorem small_big {T : List St} {L : List (List Pt)} (h : smallP L) (hp : ptsOf T = L) : ∀ s ∈ T, s.l.length ≤ 1048576 := fun s hs => Nat.le_trans (small_each h hp s hs) (by omega)
theorem small_sum {T : List St} {L : List (List Pt)} (h : smallP L) (hp : ptsOf T = L) : ∀ k, k ≤ T.length → sumL T k ≤ 60 * k
  | 0, _ => Nat.le_refl _
  | k + 1, hk => by
    have ih := small_sum h hp k (by omega)
    have h1 := small_each h hp _ (List.getElem_mem (show k < T.length by omega))
    rw [sumL_next (show k < T.length by omega)]
    omega
theorem small_len {T : List St} {L : List (List Pt)} {N : Nat} (hp : ptsOf T = L) (hN : L.length = N) : T.length = N := by rw [← hN, ← hp, ptsOf_len]
/-- how far the marks go -/
theorem small_marks {L : List (List Pt)} {mm : Nat} (h : smallP L) (hm : 1 + 3 * cntP L = mm) : mm ≤ 2881 := by
  obtain ⟨S, rfl⟩ : ∃ S, ptsOf S = L := ⟨L.map fun l => ⟨none, 0, l⟩, by unfold ptsOf; rw [List.map_map]; exact List.map_id _⟩
  have h1 := small_sum h rfl S.length (Nat.le_refl _)
  rw [sumL_all (rfl : S.length = S.length)] at h1
  have h2 := h.1
  rw [ptsOf_len] at h2
  omega
theorem markInk_x (lo hi : Nat) (A : Option Addr) (n c : Nat) (T : List St) (w : World) (h : InkOwn w lo hi (.slice A n c) T) (hl : T.length = n) (hn : n + sumL T n ≤ 1048576) :
    Calls Try.prog 25 #[.agg #[.slice A n c], .int .i64 1] w fun e w' => ∃ mx : Nat, e = .returned (.int .i64 (mx : Int)) ∧ mx ≤ 3145729 ∧ Chg lo hi w w' := by
  have h1 := markInk_any lo hi A n c 1 T w h hl (by omega) (by omega) (by omega)
  refine h1.mono fun e w' ⟨he, _, hc⟩ => ⟨_, he, by omega, hc⟩
theorem markInk_L (lo hi : Nat) (A : Option Addr) (N c mm : Nat) (T : List St) (L : List (List Pt)) (w : World) (h : InkOwn w lo hi (.slice A N c) T) (hp : ptsOf T = L) (hN : L.length = N) (hs : smallP L) (hm : 1 + 3 * cntP L = mm) :
    Calls Try.prog 25 #[.agg #[.slice A N c], .int .i64 1] w fun e w' => e = .returned (.int .i64 (mm : Int)) ∧ InkOwn w' lo hi (.slice A N c) (mkS 1 T) ∧ Chg lo hi w w' := by
  have hl := small_len hp hN
  have h2 := small_sum hs hp N (by omega)
  have h3 := hs.1
  have h4 : 1 + 3 * sumL T N = mm := by rw [sumL_all hl, hp]; exact hm
  have h1 := markInk_any lo hi A N c 1 T w h hl (by omega) (by omega) (by omega)
  rw [h4] at h1
  exact h1
theorem heldInk_L (A : Option Addr) (N c mm : Nat) (T : List St) (L : List (List Pt)) (w : World) (h : InkRd w A N (mkS 1 T)) (hp : ptsOf T = L) (hN : L.length = N) (hs : smallP L) (hm : 1 + 3 * cntP L = mm) :
    Calls Try.prog 26 #[.agg #[.slice A N c], .int .i64 1] w fun e w' => e = .returned (.int .i64 (mm : Int)) ∧ Below w.heap.size w w' := by
  have hl := small_len hp hN
  have h2 := small_sum hs hp N (by omega)
  have h3 := hs.1
  have h5 : sumL (mkS 1 T) N = sumL T N := mkS_sum 1 T N (by omega)
  have h4 : 1 + 3 * sumL (mkS 1 T) N = mm := by rw [h5, sumL_all hl, hp]; exact hm
  have h1 := heldInk_any A N c 1 (mkS 1 T) w h (mkS_marked 1 T) (by omega) (by rw [h5]; omega) (by omega)
  rw [h4] at h1
  exact h1
theorem InkOwn.rdM {w : World} {lo hi : Nat} {A : Option Addr} {N c : Nat} {T : List St} (h : InkOwn w lo hi (.slice A N c) (mkS 1 T)) (hl : T.length = N) : InkRd w A N (mkS 1 T) := h.rd (by rw [mkS_len]; exact hl)
theorem Own.chg {α : Type} {f : α → List Value} {E : TypeId} {size : Nat} {w w' : World} {base lo hi lo' hi' : Nat} {v : Value} {l : List α} (h : Own f E size w base v l) (hb : ∀ k, v.ownBlock = some k → lo' ≤ k ∧ k < hi') (hc : Chg lo hi w w') (hd : hi ≤ lo' ∨ hi' ≤ lo) : Own f E size w' base v l :=
  h.of_block fun k hk => hc.block k (h.lt k hk).2 (by have := hb k hk; omega)
theorem cutR_small (P : List (List Pt)) (f t : Int) : smallP (cutR P f t).1 := by
  cases h : inkB P
  · rw [cutR_no h]; exact smallP_nil
  · refine smallP_sub (smallP_of h) (cutR_len P f t) fun l hl => ?_
    unfold cutR at hl
    repeat' split at hl
    all_goals first | exact List.mem_of_mem_drop (List.mem_of_mem_take hl) | simp at hl
end Go.Proofs.Ytnmmnikoogjhoaa
